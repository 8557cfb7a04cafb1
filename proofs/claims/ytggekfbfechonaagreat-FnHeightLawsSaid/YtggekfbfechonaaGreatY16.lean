/-
  Joined texts: contracts and plain lemmas.
-/
import Derived.Test.YtggekfbfechonaaGreatY1
import Derived.Test.YtggekfbfechonaaGreatY15
import Derived.Deep.DeepCutAuto
import Derived.Deep.RegionWith
import Derived.Test.YtggekfbfechonaaGreatY12
import Derived.Test.YtggekfbfechonaaGreatY11
set_option linter.unusedSimpArgs false
set_option linter.unusedVariables false
set_option maxRecDepth 100000
set_option maxHeartbeats 8000000
namespace Go.Proofs.YtggekfbfechonaaGreat
section
open Go.RowKit
theorem aH.aR {W W':World} {g r:Nat} {T:TypeId} {xs:Array Value} (h:aH W g T xs) (hg:W.grownBy W' (some r)) (hn:g≠r):aH W' g T xs:=(hg.block g h.lt (by simpa using hn)).trans h
theorem St.up {w W:World} {g B n K K':Nat} {v:Value} (h:St w W g B v n K) (hK:K≤K'):St w W g B v n K':=⟨h.cur.mono hK,h.gr,h.lt⟩
theorem St.aU {w W:World} {g B n K c o:Nat} {v:Value} (h:St w W g B v n K) (hc:w.heap.size≤c) (hg:g≠c) (hB:B≤c) (x:Value):St w (W.setCell ⟨c,o,none⟩ x) g B v n K:=
 ⟨h.cur.keepR (Gr.set (ce W (some c)) o x) hg hB,Gr.ia h.gr hc _,h.lt⟩
theorem aH.kV {W:World} {g:Nat} {T:TypeId} {u v x:Value} (h:aH W g T #[u,v,x]) (y1 y2 y3:Value):aH (((W.setCell ⟨g,0,none⟩ y1).setCell ⟨g,1,none⟩ y2).setCell ⟨g,2,none⟩ y3) g T #[y1,y2,y3]:=((h.set 0 y1).set 1 y2).set 2 y3
def zV (wr:World) (g B:Nat) (v:Value) (n K:Nat) (W:World):Prop:=cN W g B v n K∧wr.grownBy W (some g)
theorem zV.keep {wr W W':World} {g B n K:Nat} {v:Value} (h:zV wr g B v n K W) (hb:Below W.heap.size W W'):zV wr g B v n K W':=⟨h.1.keep hb,cf h.2 (bf hb _)⟩
theorem zV.call {wr W W':World} {g B n K K':Nat} {v:Value} (h:zV wr g B v n K W) (hc:cN W' g B v n K') (hg:W.grownBy W' (some g)):zV wr g B v n K' W':=⟨hc,cf h.2 hg⟩
theorem zV.put {wr W:World} {g B n K h:Nat} {v:Value} (q:zV wr g B v n K W) (hg:g≠h) (hB:B≤h) (hw:wr.heap.size≤h) (o:Nat) (x:Value):zV wr g B v n K (W.setCell ⟨h,o,none⟩ x):=
 ⟨q.1.keepR (Gr.set (ce W (some h)) o x) hg hB,Gr.ia q.2 hw _⟩
theorem zV.start {w wr:World} {g B n K:Nat} {v:Value} (st:St w wr g B v n K):zV wr g B v n K wr.drew:=⟨st.drew.cur,eS (ce wr _) 1⟩
theorem aH.cm {W:World} {k i:Nat} {x:Value} {L:List (Nat × TypeId × Array Value)} (h:∀ y ∈ L,aH W y.1 y.2.1 y.2.2) (hk:∀ y ∈ L,k<y.1):∀ y ∈ L,aH (W.setCell ⟨k,i,none⟩ x) y.1 y.2.1 y.2.2:=fun y hy=>(h y hy).other (by have:=hk y hy;omega) x
structure zW (w:World) (g B:Nat) (v:Value) (n K r1 r2:Nat) (L:List (Nat × TypeId × Array Value)) (T1 T2:TypeId) (xs ys:Array Value) (W:World):Prop where
 rd:zV w g B v n K W
 hV:∀ x ∈ L,aH W x.1 x.2.1 x.2.2
 R:aH W r1 T1 xs
 Q:aH W r2 T2 ys
 hn:w.heap.size≤r1∧r1<r2∧g≠r1∧g≠r2∧B≤r1
 hL:∀ x ∈ L,r2<x.1
theorem zW.drew {w W:World} {g B n K r1 r2:Nat} {v:Value} {L:List (Nat × TypeId × Array Value)} {T1 T2:TypeId} {xs ys:Array Value} (h:zW w g B v n K r1 r2 L T1 T2 xs ys W):zW w g B v n K r1 r2 L T1 T2 xs ys W.drew:=
 ⟨h.rd.keep (wK _ _).drew,h.hV,h.R,h.Q,h.hn,h.hL⟩
theorem zW.gQ {w W:World} {g B n K r1 r2:Nat} {v:Value} {L:List (Nat × TypeId × Array Value)} {T1 T2:TypeId} {u1 u2:Value} {ys:Array Value} (h:zW w g B v n K r1 r2 L T1 T2 #[u1,u2] ys W) (x y:Value):zW w g B v n K r1 r2 L T1 T2 #[x,y] ys ((W.setCell ⟨r1,0,none⟩ x).setCell ⟨r1,1,none⟩ y):=by
 have hn:=h.hn
 have hL:∀ y ∈ L,r1<y.1:=fun y hy=>Nat.lt_trans hn.2.1 (h.hL y hy)
 exact ⟨(h.rd.put (by omega) (by omega) (by omega) 0 _).put (by omega) (by omega) (by omega) 1 _,aH.cm (aH.cm h.hV hL) hL,h.R.set2 _ _,(h.Q.other (by omega) _).other (by omega) _,hn,h.hL⟩
theorem zW.gE {w W:World} {g B n K r1 r2:Nat} {v:Value} {L:List (Nat × TypeId × Array Value)} {T1 T2:TypeId} {u1 u2 u3:Value} {xs:Array Value} (h:zW w g B v n K r1 r2 L T1 T2 xs #[u1,u2,u3] W) (x y z:Value):zW w g B v n K r1 r2 L T1 T2 xs #[x,y,z] (((W.setCell ⟨r2,0,none⟩ x).setCell ⟨r2,1,none⟩ y).setCell ⟨r2,2,none⟩ z):=by
 have hn:=h.hn;have hL:=h.hL;exact ⟨((h.rd.put (by omega) (by omega) (by omega) 0 _).put (by omega) (by omega) (by omega) 1 _).put (by omega) (by omega) (by omega) 2 _,aH.cm (aH.cm (aH.cm h.hV hL) hL) hL,((h.R.other (by omega) _).other (by omega) _).other (by omega) _,h.Q.kV _ _ _,hn,hL⟩
def uD (w:World) (g B:Nat) (v:Value) (n K:Nat) (e:Ending) (w':World):Prop:=
 ∃ a b X Y E:Int,e=.returned (.tuple #[.agg #[.int .i64 a,.int .i64 b],.agg #[.int .i64 X,.int .i64 Y,.int .i64 E]])∧Hid (M.good a b=true∧M.bG a b X Y E=true)∧cN w' g B v n K∧w.grownBy w' (some g)
def pU (w:World) (g B:Nat) (v:Value) (n K:Nat) (e:Ending) (w':World):Prop:=
 ∃ a b X Y E:Int,e=.returned (.tuple #[.agg #[.int .i64 a,.int .i64 b],.agg #[.int .i64 X,.int .i64 Y,.int .i64 E]])∧cN w' g B v n K∧w.grownBy w' (some g)
def pZ (w:World) (g B:Nat) (v:Value) (n K:Nat) (e:Ending) (w':World):Prop:=
 ∃ X Y E:Int,e=.returned (.agg #[.int .i64 X,.int .i64 Y,.int .i64 E])∧cN w' g B v n K∧w.grownBy w' (some g)
theorem cM.keepW {w w':World} {B n:Nat} {v:Value} (h:cM w B v n) (hb:Below B w w'):cM w' B v n:=by
 obtain ⟨A,cap,e,hn,hx⟩:=h;refine ⟨A,cap,e,hn,fun j hj=>?_⟩;obtain ⟨gb,ob,b,e,hgb,hc,h1,h2⟩:=hx j hj;exact ⟨gb,ob,b,e,hgb,(hb.cell (p:=⟨gb,ob+j,none⟩) hgb).trans hc,h1,h2⟩
theorem cM.mY {w:World} {B B' n:Nat} {v:Value} (h:cM w B v n) (hB:B≤B'):cM w B' v n:=by
 obtain ⟨A,cap,e,hn,hx⟩:=h;refine ⟨A,cap,e,hn,fun j hj=>?_⟩;obtain ⟨gb,ob,b,e,hgb,hc,h1,h2⟩:=hx j hj;exact ⟨gb,ob,b,e,by omega,hc,h1,h2⟩
theorem St.rW {w W:World} {v:Value} {n:Nat} (h:cM w w.heap.size v n) (hb:Below w.heap.size w W) (T:TypeId) :
  St w (W.alloc (.cells #[v,.int .i64 0,.int .u64 0] T)) W.heap.size w.heap.size v n 0:=by
 have hb2:Below w.heap.size w (W.alloc (.cells #[v,.int .i64 0,.int .u64 0] T)):=hb.alloc hb.size _;refine ⟨⟨0,wL _,⟨h.keepW hb2,hb.size,?_,?_,⟨0,?_⟩,by simp [go_sem],by simp [go_sem],by rw [wI];omega⟩⟩,bf hb2 _,hb.size⟩
 all_goals (rw [World.cell?_alloc_at _ _ _ _ rfl];rfl)
theorem St.nd {w W:World} {g B n K:Nat} {v:Value} (h:St w W g B v n K) (hg:w.heap.size≤g):Below w.heap.size w W:=cP h.gr (wL _) fun k hk=>by cases hk;exact hg
theorem zV.below {w W:World} {g B n K:Nat} {v:Value} (h:zV w g B v n K W) (hg:w.heap.size≤g):Below w.heap.size w W:=cP h.2 (wL _) fun k hk=>by cases hk;exact hg
theorem M.rC {x y a b:Int} (h1:-200≤x) (h2:x≤200) (hb:b=y*y - x*x*x - a*x):M.bG a b x y 1=true:=
 M.mg (by omega) (by omega) (by rw [hb];unfold M.cv;grind)
theorem qC (g B:Nat) (v:Value) (n K:Nat) (w:World) (h:cN w g B v n K) (hk:K≤700000000) :
  Calls Tryz.prog 152 #[.pointer (some ⟨g,0,none⟩)] w (uD w g B v n (K+20)):=by
 have hl:=h.size;obtain ⟨wc,hw3,R,Q,BB⟩:=el w #[.int .i64 0,.int .i64 0] 25 #[.int .i64 0,.int .i64 0,.int .i64 0] 27;have st:=(St.start h).keep BB;have hB:=st.lt;have hwc:=BB.size
 have nR:w.heap.size≠g:=by omega
 have nQ:w.heap.size+1≠g:=by omega
 clear h BB;go_enter Tryz.func152,Tryz.ntmps152
 go_wp2_with fail
 refine (cJ g B v n _ 6 _ st.cur (by omega) (by omega) (by omega)).mono ?_;rintro e CV ⟨x,rfl,⟨JE,JD⟩,t_,j_⟩;replace st:=st.call t_ j_;have Iu:=j_.size;replace R:=R.aR j_ nR;replace Q:=Q.aR j_ nQ;clear t_ j_
 by_cases x0:x=0
 ·subst x0
  have L1:=(aH.new CV #[.int .i64 0,.int .i64 4,.int .i64 0,.int .i64 1,.int .i64 4,.int .i64 0,.int .i64 (-1),.int .i64 0,.int .i64 (-43),.int .i64 166,.int .i64 0,.int .i64 (-432)] 25).alloc (.cells #[.int .i64 0,.int .i64 2,.int .i64 1,.int .i64 2,.int .i64 3,.int .i64 1,.int .i64 2,.int .i64 4,.int .i64 1,.int .i64 1,.int .i64 0,.int .i64 1,.int .i64 3,.int .i64 8,.int .i64 1,.int .i64 12,.int .i64 36,.int .i64 1] 27);have L2:=aH.new (CV.alloc (.cells #[.int .i64 0,.int .i64 4,.int .i64 0,.int .i64 1,.int .i64 4,.int .i64 0,.int .i64 (-1),.int .i64 0,.int .i64 (-43),.int .i64 166,.int .i64 0,.int .i64 (-432)] 25)) #[.int .i64 0,.int .i64 2,.int .i64 1,.int .i64 2,.int .i64 3,.int .i64 1,.int .i64 2,.int .i64 4,.int .i64 1,.int .i64 1,.int .i64 0,.int .i64 1,.int .i64 3,.int .i64 8,.int .i64 1,.int .i64 12,.int .i64 36,.int .i64 1] 27;rw [wI] at L2;have zx:=st.size;have zy:=st.le;have zq:=Q.lt;replace st:=st.alloc (.cells #[.int .i64 0,.int .i64 4,.int .i64 0,.int .i64 1,.int .i64 4,.int .i64 0,.int .i64 (-1),.int .i64 0,.int .i64 (-43),.int .i64 166,.int .i64 0,.int .i64 (-432)] 25);replace R:=R.alloc (.cells #[.int .i64 0,.int .i64 4,.int .i64 0,.int .i64 1,.int .i64 4,.int .i64 0,.int .i64 (-1),.int .i64 0,.int .i64 (-43),.int .i64 166,.int .i64 0,.int .i64 (-432)] 25);replace Q:=Q.alloc (.cells #[.int .i64 0,.int .i64 4,.int .i64 0,.int .i64 1,.int .i64 4,.int .i64 0,.int .i64 (-1),.int .i64 0,.int .i64 (-43),.int .i64 166,.int .i64 0,.int .i64 (-432)] 25);replace st:=st.alloc (.cells #[.int .i64 0,.int .i64 2,.int .i64 1,.int .i64 2,.int .i64 3,.int .i64 1,.int .i64 2,.int .i64 4,.int .i64 1,.int .i64 1,.int .i64 0,.int .i64 1,.int .i64 3,.int .i64 8,.int .i64 1,.int .i64 12,.int .i64 36,.int .i64 1] 27);replace R:=R.alloc (.cells #[.int .i64 0,.int .i64 2,.int .i64 1,.int .i64 2,.int .i64 3,.int .i64 1,.int .i64 2,.int .i64 4,.int .i64 1,.int .i64 1,.int .i64 0,.int .i64 1,.int .i64 3,.int .i64 8,.int .i64 1,.int .i64 12,.int .i64 36,.int .i64 1] 27);replace Q:=Q.alloc (.cells #[.int .i64 0,.int .i64 2,.int .i64 1,.int .i64 2,.int .i64 3,.int .i64 1,.int .i64 2,.int .i64 4,.int .i64 1,.int .i64 1,.int .i64 0,.int .i64 1,.int .i64 3,.int .i64 8,.int .i64 1,.int .i64 12,.int .i64 36,.int .i64 1] 27)
  have n1:CV.heap.size≠g:=by omega
  have n2:CV.heap.size+1≠g:=by omega
  go_wp2_with fail
  refine (cJ g B v n _ 6 _ st.cur (by omega) (by omega) (by omega)).mono ?_;rintro e w_k ⟨k,rfl,⟨k_lo,k_hi⟩,t_,j_⟩;replace st:=st.call t_ j_;have sz_k:=j_.size;replace R:=R.aR j_ nR;replace Q:=Q.aR j_ nQ;replace L1:=L1.aR j_ n1;replace L2:=L2.aR j_ n2;clear t_ j_;generalize CV.heap.size=G at *
  obtain ⟨j,rfl⟩:∃ j:Nat,k=j:=⟨k.toNat,by omega⟩
  obtain ⟨a,b,X,Y,q0,q1,q2,q3,q4,hp⟩:∃ a b X Y:Int,(#[.int .i64 0,.int .i64 4,.int .i64 0,.int .i64 1,.int .i64 4,.int .i64 0,.int .i64 (-1),.int .i64 0,.int .i64 (-43),.int .i64 166,.int .i64 0,.int .i64 (-432)]:Array Value)[j*2]?=some (.int .i64 a)∧(#[.int .i64 0,.int .i64 4,.int .i64 0,.int .i64 1,.int .i64 4,.int .i64 0,.int .i64 (-1),.int .i64 0,.int .i64 (-43),.int .i64 166,.int .i64 0,.int .i64 (-432)]:Array Value)[j*2+1]?=some (.int .i64 b)∧(#[.int .i64 0,.int .i64 2,.int .i64 1,.int .i64 2,.int .i64 3,.int .i64 1,.int .i64 2,.int .i64 4,.int .i64 1,.int .i64 1,.int .i64 0,.int .i64 1,.int .i64 3,.int .i64 8,.int .i64 1,.int .i64 12,.int .i64 36,.int .i64 1]:Array Value)[j*3]?=some (.int .i64 X)∧(#[.int .i64 0,.int .i64 2,.int .i64 1,.int .i64 2,.int .i64 3,.int .i64 1,.int .i64 2,.int .i64 4,.int .i64 1,.int .i64 1,.int .i64 0,.int .i64 1,.int .i64 3,.int .i64 8,.int .i64 1,.int .i64 12,.int .i64 36,.int .i64 1]:Array Value)[j*3+1]?=some (.int .i64 Y)∧(#[.int .i64 0,.int .i64 2,.int .i64 1,.int .i64 2,.int .i64 3,.int .i64 1,.int .i64 2,.int .i64 4,.int .i64 1,.int .i64 1,.int .i64 0,.int .i64 1,.int .i64 3,.int .i64 8,.int .i64 1,.int .i64 12,.int .i64 36,.int .i64 1]:Array Value)[j*3+2]?=some (.int .i64 1)∧Hid (M.good a b=true∧M.bG a b X Y 1=true):=by
   have hj:j<6:=by omega
   clear st R Q
   match j,hj with
   | 0,_=>exact ⟨0,4,0,2,rfl,rfl,rfl,rfl,rfl,wH (by decide)⟩
   | 1,_=>exact ⟨0,1,2,3,rfl,rfl,rfl,rfl,rfl,wH (by decide)⟩
   | 2,_=>exact ⟨4,0,2,4,rfl,rfl,rfl,rfl,rfl,wH (by decide)⟩
   | 3,_=>exact ⟨(-1),0,1,0,rfl,rfl,rfl,rfl,rfl,wH (by decide)⟩
   | 4,_=>exact ⟨(-43),166,3,8,rfl,rfl,rfl,rfl,rfl,wH (by decide)⟩
   | 5,_=>exact ⟨0,(-432),12,36,rfl,rfl,rfl,rfl,rfl,wH (by decide)⟩
  generalize (#[.int .i64 0,.int .i64 4,.int .i64 0,.int .i64 1,.int .i64 4,.int .i64 0,.int .i64 (-1),.int .i64 0,.int .i64 (-43),.int .i64 166,.int .i64 0,.int .i64 (-432)]:Array Value)=xs1 at *;generalize (#[.int .i64 0,.int .i64 2,.int .i64 1,.int .i64 2,.int .i64 3,.int .i64 1,.int .i64 2,.int .i64 4,.int .i64 1,.int .i64 1,.int .i64 0,.int .i64 1,.int .i64 3,.int .i64 8,.int .i64 1,.int .i64 12,.int .i64 36,.int .i64 1]:Array Value)=xs2 at *
  go_upto_region 6 with fail
  have TW:zW w g B v n _ w.heap.size (w.heap.size+1) [(G,25,xs1),(G+1,27,xs2)] 25 27 _ _ _:=⟨⟨st.cur,st.gr⟩,fun x hx=>(by rcases List.mem_cons.1 hx with rfl | hx;exact L1;rcases List.mem_cons.1 hx with rfl | hx;exact L2;cases hx),R,Q,⟨wL _,by omega,by omega,by omega,by omega⟩,fun x hx=>(by rcases List.mem_cons.1 hx with rfl | hx;(show w.heap.size+1<G;omega);rcases List.mem_cons.1 hx with rfl | hx;(show w.heap.size+1<G+1;omega);cases hx)⟩
  clear st R Q L1 L2;refine Rg.eB (fun l W=>zW w g B v n (K+2+2) w.heap.size (w.heap.size+1) [(G,25,xs1),(G+1,27,xs2)] 25 27 (bif l 8 then #[.int .i64 a,.int .i64 b] else #[.int .i64 0,.int .i64 0]) (bif l 9 then #[.int .i64 X,.int .i64 Y,.int .i64 1] else #[.int .i64 0,.int .i64 0,.int .i64 0]) W) (fun _ _ _=>True) (fun _ _=>True) [8,9] [.slice (some ⟨G,0,none⟩) 6 6,.int .i64 (j:Int),.pointer (some ⟨G,j*2,none⟩),.agg #[.int .i64 a,.int .i64 b],.slice (some ⟨G+1,0,none⟩) 6 6,.int .i64 (j:Int),.pointer (some ⟨G+1,j*3,none⟩),.agg #[.int .i64 X,.int .i64 Y,.int .i64 1],undef,undef] (by kernel_rfl) (by kernel_rfl) (by decide) (fun l l2 W h q=>by rw [←h 8 (by decide),←h 9 (by decide)];exact q) (fun _ _ _ _ _ _=>trivial) TW.drew ⟨?_,?_,?_,?_,?_,?_,?_,?_,?_,?_,trivial⟩ ?_
  ·unfold Rg.aS
   intro zZ w_ l_ i_ s_ wu xA xE ww t_ hr;refine ⟨rfl,?_⟩;rw [if_neg (by decide)];have e4:zZ.tmps[4]?=some (.slice (some ⟨G,0,none⟩) 6 6):=hr 4 (by decide)
   go_simp
  ·unfold Rg.aS
   intro zZ w_ l_ i_ s_ wu xA xE ww t_ hr;refine ⟨rfl,?_⟩;rw [if_neg (by decide)];have e6:zZ.tmps[6]?=some (.int .i64 (j:Int)):=hr 6 (by decide)
   go_simp
  ·unfold Rg.aS
   intro zZ w_ l_ i_ s_ wu xA xE ww t_ hr;refine ⟨rfl,?_⟩;rw [if_neg (by decide)];have e33:zZ.tmps[33]?=some (.slice (some ⟨G,0,none⟩) 6 6):=hr 33 (by decide);have e34:zZ.tmps[34]?=some (.int .i64 (j:Int)):=hr 34 (by decide)
   have CZ:(j:Int)<6:=by omega
   have Dh:j<6:=by omega
   (first | (go_simp;done) | (go_simp;exact Rg.wr (by omega) (by omega)) | (go_simp;omega) | (go_simp;rfl) | (go_simp;exact ⟨rfl,rfl⟩))
  ·unfold Rg.aS
   intro zZ w_ l_ i_ s_ wu xA xE ww t_ hr;refine ⟨rfl,?_⟩;rw [if_neg (by decide)];have e35:zZ.tmps[35]?=some (.pointer (some ⟨G,j*2,none⟩)):=hr 35 (by decide);have wS:aH w_ G 25 xs1:=s_.hV (G,25,xs1) (by simp);have k0:=(wS.cell (j*2)).trans q0;have k1:=(wS.cell (j*2+1)).trans q1
   (first | (go_simp;done) | (go_simp;exact Rg.wr (by omega) (by omega)) | (go_simp;omega) | (go_simp;rfl) | (go_simp;exact ⟨rfl,rfl⟩))
  ·unfold Rg.aS
   intro zZ w_ l_ i_ s_ wu xA xE ww t_ hr;refine ⟨rfl,?_⟩;rw [if_neg (by decide)];have e5:zZ.tmps[5]?=some (.slice (some ⟨G+1,0,none⟩) 6 6):=hr 5 (by decide)
   go_simp
  ·unfold Rg.aS
   intro zZ w_ l_ i_ s_ wu xA xE ww t_ hr;refine ⟨rfl,?_⟩;rw [if_neg (by decide)];have e6:zZ.tmps[6]?=some (.int .i64 (j:Int)):=hr 6 (by decide)
   go_simp
  ·unfold Rg.aS
   intro zZ w_ l_ i_ s_ wu xA xE ww t_ hr;refine ⟨rfl,?_⟩;rw [if_neg (by decide)];have e37:zZ.tmps[37]?=some (.slice (some ⟨G+1,0,none⟩) 6 6):=hr 37 (by decide);have e38:zZ.tmps[38]?=some (.int .i64 (j:Int)):=hr 38 (by decide)
   have CZ:(j:Int)<6:=by omega
   have Dh:j<6:=by omega
   (first | (go_simp;done) | (go_simp;exact Rg.wr (by omega) (by omega)) | (go_simp;omega) | (go_simp;rfl) | (go_simp;exact ⟨rfl,rfl⟩))
  ·unfold Rg.aS
   intro zZ w_ l_ i_ s_ wu xA xE ww t_ hr;refine ⟨rfl,?_⟩;rw [if_neg (by decide)];have e39:zZ.tmps[39]?=some (.pointer (some ⟨G+1,j*3,none⟩)):=hr 39 (by decide);have wS:aH w_ (G+1) 27 xs2:=s_.hV (G+1,27,xs2) (by simp);have k0:=(wS.cell (j*3)).trans q2;have k1:=(wS.cell (j*3+1)).trans q3;have k2:=(wS.cell (j*3+2)).trans q4
   (first | (go_simp;done) | (go_simp;exact Rg.wr (by omega) (by omega)) | (go_simp;omega) | (go_simp;rfl) | (go_simp;exact ⟨rfl,rfl⟩))
  ·unfold Rg.aS
   intro zZ w_ l_ i_ s_ wu xA xE ww t_ hr;have e2:zZ.tmps[2]?=some (.pointer (some ⟨w.heap.size,0,none⟩)):=hr 2 (by decide);have e36:zZ.tmps[36]?=some (.agg #[.int .i64 a,.int .i64 b]):=hr 36 (by decide);refine ⟨rfl,?_⟩;rw [if_pos (by decide)];have q_:=s_;simp only [xA,cond_false] at q_;have p_:=And.intro (q_.gQ (.int .i64 a) (.int .i64 b)) (And.intro True.intro True.intro)
   skip
   have ⟨yz,y6,y7,ym,_⟩:=q_.R.box;unfold Oper.wp
   go_simp
   all_goals first | exact p_ | exact p_.1 | exact ⟨undef,p_⟩ | exact ⟨_,rfl,p_⟩
  ·unfold Rg.aS
   intro zZ w_ l_ i_ s_ wu xA xE ww t_ hr;have e3:zZ.tmps[3]?=some (.pointer (some ⟨w.heap.size+1,0,none⟩)):=hr 3 (by decide);have e40:zZ.tmps[40]?=some (.agg #[.int .i64 X,.int .i64 Y,.int .i64 1]):=hr 40 (by decide);refine ⟨rfl,?_⟩;rw [if_pos (by decide)];have q_:=s_;simp only [xA,cond_false] at q_;have p_:=And.intro (q_.gE (.int .i64 X) (.int .i64 Y) (.int .i64 1)) (And.intro True.intro True.intro);have ⟨yz,y6,Bb,y7,ym,Ay⟩:=q_.Q.bF;unfold Oper.wp
   go_simp
   all_goals first | exact p_ | exact p_.1 | exact ⟨undef,p_⟩ | exact ⟨_,rfl,p_⟩
  intro vals wz s_ hF hv;simp only [Rg.ay,Rg.fill,Act.put,Nat.reduceAdd];clear hv hF;simp only [cond_true] at s_;obtain ⟨⟨t_,j_⟩,-,R,Q,-,-⟩:=s_;have ⟨zS,zT,wM,wN,zU⟩:=R.box;have ⟨BK,BL,BM,yc,yd,ye⟩:=Q.bF;have BN:=Q.lt;go_wp2;exact bodyPost_ret (v:=.tuple #[.agg #[.int .i64 a,.int .i64 b],.agg #[.int .i64 X,.int .i64 Y,.int .i64 1]]) (by simp [results,Tryz.results152,go_sem, *]) rfl (⟨a,b,X,Y,1,rfl,hp,t_.mono (by omega),j_⟩)
 by_cases x1:x=1
 ·subst x1
  have ⟨zS,zT,wM,wN,zU⟩:=R.box;have ⟨BK,BL,BM,yc,yd,ye⟩:=Q.bF;have BN:=Q.lt;go_wp2;exact bodyPost_ret (v:=.tuple #[.agg #[.int .i64 (-16),.int .i64 16],.agg #[.int .i64 0,.int .i64 4,.int .i64 1]]) (by simp [results,Tryz.results152,go_sem, *]) rfl (⟨(-16),16,0,4,1,rfl,wH (by decide),(((((st.aU (c:=w.heap.size) (o:=0) (by omega) (by omega) (by omega) (.int .i64 (-16))).aU (c:=w.heap.size) (o:=1) (by omega) (by omega) (by omega) (.int .i64 16)).aU (c:=w.heap.size+1) (o:=0) (by omega) (by omega) (by omega) (.int .i64 0)).aU (c:=w.heap.size+1) (o:=1) (by omega) (by omega) (by omega) (.int .i64 4)).aU (c:=w.heap.size+1) (o:=2) (by omega) (by omega) (by omega) (.int .i64 1)).cur.mono (by omega),(((((st.aU (c:=w.heap.size) (o:=0) (by omega) (by omega) (by omega) (.int .i64 (-16))).aU (c:=w.heap.size) (o:=1) (by omega) (by omega) (by omega) (.int .i64 16)).aU (c:=w.heap.size+1) (o:=0) (by omega) (by omega) (by omega) (.int .i64 0)).aU (c:=w.heap.size+1) (o:=1) (by omega) (by omega) (by omega) (.int .i64 4)).aU (c:=w.heap.size+1) (o:=2) (by omega) (by omega) (by omega) (.int .i64 1)).gr⟩)
 by_cases x2:x=2
 ·subst x2
  have ⟨zS,zT,wM,wN,zU⟩:=R.box;have ⟨BK,BL,BM,yc,yd,ye⟩:=Q.bF;have BN:=Q.lt;go_wp2;exact bodyPost_ret (v:=.tuple #[.agg #[.int .i64 (-25),.int .i64 0],.agg #[.int .i64 (-4),.int .i64 6,.int .i64 1]]) (by simp [results,Tryz.results152,go_sem, *]) rfl (⟨(-25),0,(-4),6,1,rfl,wH (by decide),(((((st.aU (c:=w.heap.size) (o:=0) (by omega) (by omega) (by omega) (.int .i64 (-25))).aU (c:=w.heap.size) (o:=1) (by omega) (by omega) (by omega) (.int .i64 0)).aU (c:=w.heap.size+1) (o:=0) (by omega) (by omega) (by omega) (.int .i64 (-4))).aU (c:=w.heap.size+1) (o:=1) (by omega) (by omega) (by omega) (.int .i64 6)).aU (c:=w.heap.size+1) (o:=2) (by omega) (by omega) (by omega) (.int .i64 1)).cur.mono (by omega),(((((st.aU (c:=w.heap.size) (o:=0) (by omega) (by omega) (by omega) (.int .i64 (-25))).aU (c:=w.heap.size) (o:=1) (by omega) (by omega) (by omega) (.int .i64 0)).aU (c:=w.heap.size+1) (o:=0) (by omega) (by omega) (by omega) (.int .i64 (-4))).aU (c:=w.heap.size+1) (o:=1) (by omega) (by omega) (by omega) (.int .i64 6)).aU (c:=w.heap.size+1) (o:=2) (by omega) (by omega) (by omega) (.int .i64 1)).gr⟩)
 have b0:(x == 0)=false:=by simpa using x0
 have b1:(x == 1)=false:=by simpa using x1
 have b2:(x == 2)=false:=by simpa using x2
 go_wp2_with fail
 refine (cJ g B v n _ 21 _ st.cur (by omega) (by omega) (by omega)).mono ?_;rintro e Ok ⟨x3,rfl,⟨JC,JB⟩,t_,j_⟩;replace st:=st.call t_ j_;have Ix:=j_.size;replace R:=R.aR j_ nR;replace Q:=Q.aR j_ nQ;clear t_ j_
 go_wp2_with fail
 refine (cJ g B v n _ 31 _ st.cur (by omega) (by omega) (by omega)).mono ?_;rintro e w_y3 ⟨y3,rfl,⟨y3_lo,y3_hi⟩,t_,j_⟩;replace st:=st.call t_ j_;have sz_y3:=j_.size;replace R:=R.aR j_ nR;replace Q:=Q.aR j_ nQ;clear t_ j_
 go_wp2_with fail
 refine (cJ g B v n _ 31 _ st.cur (by omega) (by omega) (by omega)).mono ?_;rintro e HC ⟨a3,rfl,⟨a3_lo,a3_hi⟩,t_,j_⟩;replace st:=st.call t_ j_;have sz_a3:=j_.size;replace R:=R.aR j_ nR;replace Q:=Q.aR j_ nQ;clear t_ j_
 go_upto_region 13 with fail
 have hx1:-10≤x3 - 10:=by omega
 have hx2:x3 - 10≤10:=by omega
 have hy1:-15≤y3 - 15:=by omega
 have hy2:y3 - 15≤15:=by omega
 have ha1:-15≤a3 - 15:=by omega
 have ha2:a3 - 15≤15:=by omega
 clear x0 x1 x2 b0 b1 b2;generalize a3 - 15=a,y3 - 15=Y,x3 - 10=X at *;have m1:=M.aL (x:=Y) (y:=Y) (m:=15) (n:=15) (by omega) (by omega) (by omega) (by omega);have m2:=M.aL (x:=X) (y:=X) (m:=10) (n:=10) (by omega) (by omega) (by omega) (by omega);have m3:=M.aL (x:=X*X) (y:=X) (m:=100) (n:=10) (by omega) (by omega) (by omega) (by omega);have m4:=M.aL (x:=a) (y:=X) (m:=15) (n:=10) (by omega) (by omega) (by omega) (by omega)
 have hpt:∀ b,b=Y*Y - X*X*X - a*X→M.bG a b X Y 1=true:=fun b hb=>M.rC (by omega) (by omega) hb
 replace hpt:=wH hpt;have E:=aH.new HC #[.int .i64 a,.int .i64 (Y*Y - X*X*X - a*X)] 25;have zx:=st.size;have zy:=st.le;have zq:=Q.lt;replace st:=st.alloc (.cells #[.int .i64 a,.int .i64 (Y*Y - X*X*X - a*X)] 25);replace R:=R.alloc (.cells #[.int .i64 a,.int .i64 (Y*Y - X*X*X - a*X)] 25);replace Q:=Q.alloc (.cells #[.int .i64 a,.int .i64 (Y*Y - X*X*X - a*X)] 25)
 have nE:HC.heap.size≠g:=by omega
 have HG:=fun w=>dO a (Y*Y - X*X*X - a*X) w
 replace hpt:=wH (hpt.out _ rfl);have ⟨DD,DE,AB,AC,DF⟩:=E.box
 go_wp2_with fail
 generalize Y*Y - X*X*X - a*X=b,HC.heap.size=G at *;clear m1 m2 m3 m4 hx1 hx2 hy1 hy2 ha1 ha2
 cases hg:M.good a b <;> rw [hg] at HG <;> replace HG:=wH HG <;> replace hg:=wH hg
 all_goals
  refine (HG.out _).mono ?_;rintro e w9 ⟨rfl,wb⟩;clear DD DE AB AC DF;replace st:=st.keep wb;replace R:=R.keep wb;replace Q:=Q.keep wb;replace E:=E.keep wb;clear wb;have ⟨zS,zT,wM,wN,zU⟩:=R.box;have ⟨BK,BL,BM,yc,yd,ye⟩:=Q.bF;have BN:=Q.lt;have ⟨DD,DE,AB,AC,DF⟩:=E.box;go_wp2
 ·skip
  exact bodyPost_ret (v:=.tuple #[.agg #[.int .i64 (-2),.int .i64 1],.agg #[.int .i64 0,.int .i64 1,.int .i64 1]]) (by simp [results,Tryz.results152,go_sem, *]) rfl (⟨(-2),1,0,1,1,rfl,wH (by decide),(((((st.aU (c:=w.heap.size) (o:=0) (by omega) (by omega) (by omega) (.int .i64 (-2))).aU (c:=w.heap.size) (o:=1) (by omega) (by omega) (by omega) (.int .i64 1)).aU (c:=w.heap.size+1) (o:=0) (by omega) (by omega) (by omega) (.int .i64 0)).aU (c:=w.heap.size+1) (o:=1) (by omega) (by omega) (by omega) (.int .i64 1)).aU (c:=w.heap.size+1) (o:=2) (by omega) (by omega) (by omega) (.int .i64 1)).cur.mono (by omega),(((((st.aU (c:=w.heap.size) (o:=0) (by omega) (by omega) (by omega) (.int .i64 (-2))).aU (c:=w.heap.size) (o:=1) (by omega) (by omega) (by omega) (.int .i64 1)).aU (c:=w.heap.size+1) (o:=0) (by omega) (by omega) (by omega) (.int .i64 0)).aU (c:=w.heap.size+1) (o:=1) (by omega) (by omega) (by omega) (.int .i64 1)).aU (c:=w.heap.size+1) (o:=2) (by omega) (by omega) (by omega) (.int .i64 1)).gr⟩)
 skip
 exact bodyPost_ret (v:=.tuple #[.agg #[.int .i64 a,.int .i64 b],.agg #[.int .i64 X,.int .i64 Y,.int .i64 1]]) (by simp [results,Tryz.results152,go_sem, *]) rfl (⟨a,b,X,Y,1,rfl,wH ⟨hg.out,hpt.out⟩,(((((st.aU (c:=w.heap.size) (o:=0) (by omega) (by omega) (by omega) (.int .i64 a)).aU (c:=w.heap.size) (o:=1) (by omega) (by omega) (by omega) (.int .i64 b)).aU (c:=w.heap.size+1) (o:=0) (by omega) (by omega) (by omega) (.int .i64 X)).aU (c:=w.heap.size+1) (o:=1) (by omega) (by omega) (by omega) (.int .i64 Y)).aU (c:=w.heap.size+1) (o:=2) (by omega) (by omega) (by omega) (.int .i64 1)).cur.mono (by omega),(((((st.aU (c:=w.heap.size) (o:=0) (by omega) (by omega) (by omega) (.int .i64 a)).aU (c:=w.heap.size) (o:=1) (by omega) (by omega) (by omega) (.int .i64 b)).aU (c:=w.heap.size+1) (o:=0) (by omega) (by omega) (by omega) (.int .i64 X)).aU (c:=w.heap.size+1) (o:=1) (by omega) (by omega) (by omega) (.int .i64 Y)).aU (c:=w.heap.size+1) (o:=2) (by omega) (by omega) (by omega) (.int .i64 1)).gr⟩)
theorem pj (a b X Y E n:Int) (w:World) :
  Calls Tryz.prog 59 #[.agg #[.int .i64 a,.int .i64 b],.agg #[.int .i64 X,.int .i64 Y,.int .i64 E],.int .i64 n] w fun e w'=>e=.returned (.bool (M.bW a b X Y E && M.ins n 0 5))∧Below w.heap.size w w':=by
 have PT:∀ W,Calls Tryz.prog 62 #[.agg #[.int .i64 a,.int .i64 b],.agg #[.int .i64 X,.int .i64 Y,.int .i64 E]] W fun e w'=>e=.returned (.bool (M.bW a b X Y E))∧Below W.heap.size W w':=fun W=>cX a b X Y E W
 have PN:∀ W,Calls Tryz.prog 78 #[.int .i64 n,.int .i64 0,.int .i64 5] W fun e w'=>e=.returned (.bool (M.ins n 0 5))∧W=w':=fun W=>ch n 0 5 W
 obtain ⟨wc,hw3,C,Q,B⟩:=el w #[.int .i64 a,.int .i64 b] 25 #[.int .i64 X,.int .i64 Y,.int .i64 E] 27;have f_:=C.box.c0;have g_:=C.box.c1;have ⟨q0,q1,q2⟩:=Q.aK;replace PN:=wH PN
 cases h0:M.bW a b X Y E <;> rw [h0] at PT <;> replace PT:=wH PT
 ·go_enter Tryz.func59,Tryz.ntmps59
  go_wp2_with (first | (go_at_call 62;(with_reducible refine (PT.out _).mono ?_);rintro e w4 ⟨rfl,hb4⟩;replace B:=d_ B hb4;replace C:=C.keep hb4;replace Q:=Q.keep hb4;have f_:=C.box.c0;have g_:=C.box.c1;(have ⟨q0,q1,q2⟩:=Q.aK)) | (go_at_call 78;(with_reducible refine (PN.out _).mono ?_);rintro e w5 ⟨rfl,rfl⟩))
  go_ret;exact ⟨by first | rfl | simp,B⟩
 go_enter Tryz.func59,Tryz.ntmps59
 go_wp2_with (first | (go_at_call 62;(with_reducible refine (PT.out _).mono ?_);rintro e w4 ⟨rfl,hb4⟩;replace B:=d_ B hb4;replace C:=C.keep hb4;replace Q:=Q.keep hb4;have f_:=C.box.c0;have g_:=C.box.c1;(have ⟨q0,q1,q2⟩:=Q.aK)) | (go_at_call 78;(with_reducible refine (PN.out _).mono ?_);rintro e w5 ⟨rfl,rfl⟩))
 go_ret;exact ⟨by first | rfl | simp,B⟩
namespace M
theorem sV {a X Y E:Int} (n:Nat):gT a X Y E (n:Int)=z6 a X Y E n:=by
 unfold gT EO;rw [if_neg (by omega)];rfl
end M
abbrev Pt:=Int × Int × Int
def iH (W:World) (v:Value) (l:List Pt):Prop:=∃ (a:Option Addr) (cap:Nat),v=.slice a l.length cap∧(l=[]∨∃ g,a=some ⟨g,0,none⟩∧ij W g l)
theorem iH.below {w w':World} {v:Value} {l:List Pt} (h:iH w v l) (hb:Below w.heap.size w w'):iH w' v l:=by
 obtain ⟨a,cap,e,h⟩:=h;refine ⟨a,cap,e,?_⟩
 rcases h with h | ⟨g,e,h⟩
 ·exact Or.inl h
 exact Or.inr ⟨g,e,h.below hb⟩
end
section
open Go.RowKit Go.Shelf
def DC:Rw.Enc (Int × Int × Int) where
 t:=27
 k:=3
 cells:=fun q=>[.int .i64 q.1,.int .i64 q.2.1,.int .i64 q.2.2]
 len:=fun _=>rfl
 one:=fun x u hu=>by simp only [List.mem_cons,List.not_mem_nil,or_false] at hu;rcases hu with rfl | rfl | rfl <;> rfl
 pos:=by decide
theorem ud:(Tryz.prog.info? 27).map (fun i=>(i.zero,i.size,i.bytes))=some (some (.agg #[.int .i64 0,.int .i64 0,.int .i64 0]),3,24):=by kernel_rfl
theorem ni:Rw.Fits Tryz.prog DC 67:=⟨Tryz.underlying67,by
 obtain ⟨i0,hi,hz0,hz1,hz2⟩:=info_parts ud
 exact ⟨i0,_,hi,hz0,hz1,by omega,rfl⟩⟩
theorem Rw.Seen.Jm {w:World} {hi:Nat} {v:Value} {l:List Pt} (h:Rw.Seen DC w hi v l):iH w v l:=by
 obtain ⟨a,cap,rfl,h1,h2,h3⟩:=h;refine ⟨a,cap,rfl,?_⟩
 cases l with
 | nil=>exact Or.inl rfl
 | cons p l=>
 obtain ⟨g,x,e,-⟩:=h3 0 (by simp);refine Or.inr ⟨g,e,fun i y hy=>?_⟩;obtain ⟨g2,x2,e2,-,hx2,hc⟩:=h3 i (List.getElem?_eq_some_iff.1 hy).1;rw [e] at e2
 injection e2 with e2
 injection e2 with e2
 subst e2;rw [hy] at hx2;obtain rfl:=Option.some.inj hx2.out;exact ⟨hc 0 _ rfl,hc 1 _ rfl,hc 2 _ rfl⟩
theorem ks {w:World} {H:Nat} (x y z:Int) (hH:w.heap.size=H):Rw.From DC (w.alloc (.cells #[.int .i64 x,.int .i64 y,.int .i64 z] 27)) (some ⟨H,0,none⟩) [(x,y,z)]:=Rw.From.lit DC w (x,y,z) H hH
theorem iH.fI {W W':World} {r:Option Nat} {A:Option Addr} {n c:Nat} {l:List Pt} (h:iH W (.slice A n c) l) (hg:W.grownBy W' r) (hn:∀ k,r=some k→A≠some ⟨k,0,none⟩):iH W' (.slice A n c) l:=by
 obtain ⟨a,cap,e,h⟩:=h;cases e
 refine ⟨_,_,rfl,?_⟩
 rcases h with h | ⟨g,rfl,h⟩
 ·exact Or.inl h
 refine Or.inr ⟨g,rfl,fun k p hp=>?_⟩
 have hne:some g≠r:=fun e=>hn g e.symm rfl
 obtain ⟨h1,h2,h3⟩:=h k p hp;exact ⟨hg.cell h1 hne,hg.cell h2 hne,hg.cell h3 hne⟩
theorem aH.fI {W W':World} {g:Nat} {r:Option Nat} {T:TypeId} {xs:Array Value} (h:aH W g T xs) (hg:W.grownBy W' r) (hn:∀ k,r=some k→g≠k):aH W' g T xs:=
 (hg.block g h.lt fun e=>by
  cases r with
  | none=>cases e
  | some k=>exact hn k rfl (Option.some.inj e)).trans h
end
section
namespace M
theorem pR {a b X Y E:Int} (hg:good a b=true) (hp:bG a b X Y E=true):∀ n p,z6 a X Y E n=some p→eA p.1 p.2.1 p.2.2=ws.mul a n (eA X Y E)
 | 0,p,h=>by
  cases h
  exact rk 0 0
 | n+1,p,h=>by
  cases hq:z6 a X Y E n with
  | none=>
   have:=fq hq (n+1) (by omega);rw [this] at h;cases h
  | some q=>
  rw [iE hq] at h
  split at h
  ·rename_i hk
   cases h
   have ih:=pR hg hp n q hq;have:=si hg (ju hg hp n q hq) hp hk;rw [ih] at this;exact this
  cases h
end M
end
section
open Go.RowKit
namespace M
noncomputable def cW (a b X E:Int):Int:=bL a b X E (bN a b X E)
noncomputable def cR (a b X E:Int):Int:=bH a b X E (bN a b X E)
theorem dI {a b X Y E:Int} (h:bW a b X Y E=true):0≤cW a b X E∧cW a b X E≤cR a b X E∧cR a b X E≤150000∧aQ (cW a b X E) (cR a b X E)=true∧AK a b X E=true:=by
 obtain ⟨hg,hp⟩:=bP h;have h1:=er hg hp (bN a b X E);have h2:=iI hg hp;have h3:=b8 (show aQ (cW a b X E) (cR a b X E)=true from h2);exact ⟨h1.1,h3.1,h1.2,h2,h2⟩
theorem k8 (p q:Int):yS (mkS p q)=pick (aQ p q) (pn p)∧yT (mkS p q)=pick (aQ p q) (pd p)∧yU (mkS p q)=pick (aQ p q) (pn q)∧yV (mkS p q)=pick (aQ p q) (pd q)∧(mkS p q).isSome=aQ p q:=by
 unfold mkS
 cases aQ p q <;> exact ⟨rfl,rfl,rfl,rfl,rfl⟩
noncomputable def gj (a b n:Int):Bool:=good a b && ins n 1 6000
noncomputable def CC (a b X Y E m:Int):Sp:=gd (bW a b X Y E && ins m 1 12) (mkS (cW a b X E*m*m) (cR a b X E*m*m))
noncomputable def eU (a b X Y E:Int):Sp:=gd (bW a b X Y E && !(E == 0)) (mkS (cW a b X E - bk (aX a b X E 0)*4096) (cR a b X E - (bk (aX a b X E 0) - 1)*4096))
noncomputable def iK (a b X1 E1 X2 E2:Int):Int:=if cR a b X1 E1<cW a b X2 E2 then -1 else if cR a b X2 E2<cW a b X1 E1 then 1 else 0
theorem rg {x y:Int} (h:aQ x y=true):(1≤pd x∧pd x≤4096∧-1000000000≤pn x∧pn x≤1000000000)∧(1≤pd y∧pd y≤4096∧-1000000000≤pn y∧pn y≤1000000000):=by
 obtain ⟨h1,h2,h3⟩:=b8 h;obtain ⟨-,d1,d2,-,-,-,-,n1,n2⟩:=eK (bS (a:=x) (by omega) (by omega));obtain ⟨-,e1,e2,-,-,-,-,m1,m2⟩:=eK (bS (a:=y) (by omega) (by omega));exact ⟨⟨d1,d2,n1,n2⟩,⟨e1,e2,m1,m2⟩⟩
end M
theorem iQ (a b c d:Int) (w:World) (h1:-4000000000000000000≤a*d) (h2:a*d≤4000000000000000000) (h3:-4000000000000000000≤c*b) (h4:c*b≤4000000000000000000) :
  Calls Tryz.prog 111 #[.agg #[.int .i64 a,.int .i64 b],.agg #[.int .i64 c,.int .i64 d]] w fun e w'=>e=.returned (.bool (decide (a*d<c*b)))∧Below w.heap.size w w':=by
 by_cases h:a*d<c*b
 ·have hd:decide (a*d<c*b)=true:=decide_eq_true h
  rw [hd];go_enter Tryz.func111,Tryz.ntmps111
  go_wp2;go_ret;exact ⟨by first | rfl | simp [hd],(by repeat (first | exact wK _ _ | refine aV ?_ _ | refine aW ?_ (by assumption) | refine Below.drew ?_ | refine wJ ?_ (by first | exact wL _ | exact Nat.le_add_right _ _ | (simp <;> omega)) _ | refine aM ?_ _))⟩
 have hd:decide (a*d<c*b)=false:=decide_eq_false h;rw [hd];go_enter Tryz.func111,Tryz.ntmps111
 go_wp2;go_ret;exact ⟨by first | rfl | simp [hd],(by repeat (first | exact wK _ _ | refine aV ?_ _ | refine aW ?_ (by assumption) | refine Below.drew ?_ | refine wJ ?_ (by first | exact wL _ | exact Nat.le_add_right _ _ | (simp <;> omega)) _ | refine aM ?_ _))⟩
theorem gN (a b n:Int) (w:World) :
  Calls Tryz.prog 44 #[.agg #[.int .i64 a,.int .i64 b],.int .i64 n] w fun e w'=>e=.returned (.tuple #[.int .i64 (M.pick (M.gj a b n) (4*n - 3 - (M.hC a b:Nat))),.int .i64 (M.pick (M.gj a b n) (4*n+(M.hC a b:Nat))),.bool (M.gj a b n)])∧Below w.heap.size w w':=by
 have PT:∀ W,Calls Tryz.prog 73 #[.agg #[.int .i64 a,.int .i64 b]] W fun e w'=>e=.returned (.bool (M.good a b))∧Below W.heap.size W w':=fun W=>iT a b W
 have PN:∀ W,Calls Tryz.prog 56 #[.int .i64 n,.int .i64 1,.int .i64 6000] W fun e w'=>e=.returned (.bool (M.ins n 1 6000))∧W=w':=fun W=>cK n 1 6000 W
 unfold M.gj;obtain ⟨wc,hw3,C,B⟩:=ix w #[.int .i64 a,.int .i64 b] 25;have f_:=C.box.c0;have g_:=C.box.c1
 cases h0:M.good a b with
 | false=>
  simp only [h0,Bool.true_and,Bool.false_and,Bool.and_false] at PT PN ⊢;replace PT:=wH PT;replace PN:=wH PN;go_enter Tryz.func44,Tryz.ntmps44
  go_wp2_with (first | (go_at_call 73;(with_reducible refine (PT.out _).mono ?_);rintro e w4 ⟨rfl,hb4⟩;replace B:=d_ B hb4;replace C:=C.keep hb4;have f_:=C.box.c0;have g_:=C.box.c1) | (go_at_call 56;(with_reducible refine (PN.out _).mono ?_);rintro e w5 ⟨rfl,rfl⟩))
  exact bodyPost_ret (v:=.tuple #[.int .i64 0,.int .i64 0,.bool false]) (by simp [results,Tryz.results44,go_sem, *]) rfl (⟨rfl,B⟩)
 | true=>
 cases h1:M.ins n 1 6000 with
 | false=>
  simp only [h0,h1,Bool.true_and,Bool.false_and,Bool.and_false] at PT PN ⊢;replace PT:=wH PT;replace PN:=wH PN;go_enter Tryz.func44,Tryz.ntmps44
  go_wp2_with (first | (go_at_call 73;(with_reducible refine (PT.out _).mono ?_);rintro e w4 ⟨rfl,hb4⟩;replace B:=d_ B hb4;replace C:=C.keep hb4;have f_:=C.box.c0;have g_:=C.box.c1) | (go_at_call 56;(with_reducible refine (PN.out _).mono ?_);rintro e w5 ⟨rfl,rfl⟩))
  exact bodyPost_ret (v:=.tuple #[.int .i64 0,.int .i64 0,.bool false]) (by simp [results,Tryz.results44,go_sem, *]) rfl (⟨rfl,B⟩)
 | true=>
 simp only [h0,h1,Bool.and_self] at PT PN ⊢;simp only [M.bn];obtain ⟨n1,n2⟩:=M.cO.1 h1;have hC:=M.iu (M.ag h0)
 have PC:=fun W=>dz a b W (M.ag h0)
 obtain ⟨cc,hcc⟩:∃ x:Int,x=((M.hC a b:Nat):Int):=⟨_,rfl⟩
 have hc1:0≤cc:=by omega
 have hc2:cc≤60:=by omega
 rw [←hcc] at PC ⊢;clear hcc hC h0 h1;replace PT:=wH PT;replace PN:=wH PN;replace PC:=wH PC;go_enter Tryz.func44,Tryz.ntmps44
 go_wp2_with (first | (go_at_call 73;(with_reducible refine (PT.out _).mono ?_);rintro e w4 ⟨rfl,hb4⟩;replace B:=d_ B hb4;replace C:=C.keep hb4;have f_:=C.box.c0;have g_:=C.box.c1) | (go_at_call 56;(with_reducible refine (PN.out _).mono ?_);rintro e w5 ⟨rfl,rfl⟩) | (go_at_call 75;(with_reducible refine (PC.out _).mono ?_);rintro e w7 ⟨rfl,wg⟩;replace B:=d_ B wg;replace C:=C.keep wg;have f_:=C.box.c0;have g_:=C.box.c1))
 exact bodyPost_ret (v:=.tuple #[.int .i64 (4*n - 3 - cc),.int .i64 (4*n+cc),.bool true]) (by simp [results,Tryz.results44,go_sem, *]) rfl (⟨rfl,B⟩)
theorem gS (a b n:Int) (w:World) :
  Calls Tryz.prog 45 #[.agg #[.int .i64 a,.int .i64 b],.int .i64 n] w fun e w'=>e=.returned (.tuple #[.int .i64 (M.pick (M.gj a b n) (4*n - 3 - (M.hC a b:Nat))),.int .i64 (M.pick (M.gj a b n) (4*n+(M.hC a b:Nat))),.bool (M.gj a b n)])∧Below w.heap.size w w':=by
 have PT:∀ W,Calls Tryz.prog 77 #[.agg #[.int .i64 a,.int .i64 b]] W fun e w'=>e=.returned (.bool (M.good a b))∧Below W.heap.size W w':=fun W=>dO a b W
 have PN:∀ W,Calls Tryz.prog 78 #[.int .i64 n,.int .i64 1,.int .i64 6000] W fun e w'=>e=.returned (.bool (M.ins n 1 6000))∧W=w':=fun W=>ch n 1 6000 W
 unfold M.gj;obtain ⟨wc,hw3,C,B⟩:=ix w #[.int .i64 a,.int .i64 b] 25;have f_:=C.box.c0;have g_:=C.box.c1
 cases h0:M.good a b with
 | false=>
  simp only [h0,Bool.true_and,Bool.false_and,Bool.and_false] at PT PN ⊢;replace PT:=wH PT;replace PN:=wH PN;go_enter Tryz.func45,Tryz.ntmps45
  go_wp2_with (first | (go_at_call 77;(with_reducible refine (PT.out _).mono ?_);rintro e w4 ⟨rfl,hb4⟩;replace B:=d_ B hb4;replace C:=C.keep hb4;have f_:=C.box.c0;have g_:=C.box.c1) | (go_at_call 78;(with_reducible refine (PN.out _).mono ?_);rintro e w5 ⟨rfl,rfl⟩))
  exact bodyPost_ret (v:=.tuple #[.int .i64 0,.int .i64 0,.bool false]) (by simp [results,Tryz.results45,go_sem, *]) rfl (⟨rfl,B⟩)
 | true=>
 cases h1:M.ins n 1 6000 with
 | false=>
  simp only [h0,h1,Bool.true_and,Bool.false_and,Bool.and_false] at PT PN ⊢;replace PT:=wH PT;replace PN:=wH PN;go_enter Tryz.func45,Tryz.ntmps45
  go_wp2_with (first | (go_at_call 77;(with_reducible refine (PT.out _).mono ?_);rintro e w4 ⟨rfl,hb4⟩;replace B:=d_ B hb4;replace C:=C.keep hb4;have f_:=C.box.c0;have g_:=C.box.c1) | (go_at_call 78;(with_reducible refine (PN.out _).mono ?_);rintro e w5 ⟨rfl,rfl⟩))
  exact bodyPost_ret (v:=.tuple #[.int .i64 0,.int .i64 0,.bool false]) (by simp [results,Tryz.results45,go_sem, *]) rfl (⟨rfl,B⟩)
 | true=>
 simp only [h0,h1,Bool.and_self] at PT PN ⊢;simp only [M.bn];obtain ⟨n1,n2⟩:=M.cO.1 h1;have hC:=M.iu (M.ag h0)
 have PC:=fun W=>gi a b W (M.ag h0)
 obtain ⟨cc,hcc⟩:∃ x:Int,x=((M.hC a b:Nat):Int):=⟨_,rfl⟩
 have hc1:0≤cc:=by omega
 have hc2:cc≤60:=by omega
 rw [←hcc] at PC ⊢;clear hcc hC h0 h1;replace PT:=wH PT;replace PN:=wH PN;replace PC:=wH PC;go_enter Tryz.func45,Tryz.ntmps45
 go_upto_region 3 with (first | (go_at_call 77;(with_reducible refine (PT.out _).mono ?_);rintro e w4 ⟨rfl,hb4⟩;replace B:=d_ B hb4;replace C:=C.keep hb4;have f_:=C.box.c0;have g_:=C.box.c1) | (go_at_call 78;(with_reducible refine (PN.out _).mono ?_);rintro e w5 ⟨rfl,rfl⟩))
 refine Rg.bO 14 [.is (.int .i64 n),.is (.int .i64 (4*n)),.is (.int .i64 ((4*n) - 3)),.is (.agg #[.int .i64 a,.int .i64 b]),.is (.int .i64 cc),.is (.int .i64 (((4*n) - 3) - cc)),.is (.int .i64 n),.is (.int .i64 (4*n)),.is (.agg #[.int .i64 a,.int .i64 b]),.is (.int .i64 cc),.is (.int .i64 ((4*n)+cc)),.is (.int .i64 (((4*n) - 3) - cc)),.is (.int .i64 ((4*n)+cc)),.is (.bool true)] (by kernel_rfl) (by kernel_rfl) (by kernel_rfl) ⟨?_,?_,?_,?_,?_,?_,?_,?_,?_,?_,?_,?_,?_,?_,trivial⟩ ?_
 ·intro _ zZ w_ hB hr
  have e1:zZ.tmps[1]?=some (.int .i64 n):=hr 1 (by decide);exact Rg.aG rfl (by go_simp)
 ·intro _ zZ w_ hB hr
  have e15:=Rg.c_ (hr 15 (by decide));have ec:=Rg.ec zZ;exact Rg.aG rfl (by go_simp <;> exact Rg.wo (by omega))
 ·intro _ zZ w_ hB hr
  have e16:=Rg.c_ (hr 16 (by decide));have ec:=Rg.ec zZ;exact Rg.aG rfl (by go_simp <;> exact Rg.wo (by omega))
 ·intro _ zZ w_ hB hr
  have e2:zZ.tmps[2]?=some (.pointer (some ⟨w.heap.size,0,none⟩)):=hr 2 (by decide);have wS:=C.keep hB;have ⟨k0,k1,_,_,_⟩:=wS.box;exact Rg.aG rfl (by (first | (go_simp;done) | (go_simp;exact Rg.wo (by omega))))
 ·intro _ zZ w_ hB hr
  have e18:=Rg.c_ (hr 18 (by decide));have ef:=Rg.ef zZ;exact Rg.bo rfl (by go_simp) (PC.out _)
 ·intro _ zZ w_ hB hr
  have e17:=Rg.c_ (hr 17 (by decide));have e19:=Rg.c_ (hr 19 (by decide));exact Rg.aG rfl (by go_simp <;> exact Rg.wo (by omega))
 ·intro _ zZ w_ hB hr
  have e1:zZ.tmps[1]?=some (.int .i64 n):=hr 1 (by decide);exact Rg.aG rfl (by go_simp)
 ·intro _ zZ w_ hB hr
  have e21:=Rg.c_ (hr 21 (by decide));have ec:=Rg.ec zZ;exact Rg.aG rfl (by go_simp <;> exact Rg.wo (by omega))
 ·intro _ zZ w_ hB hr
  have e2:zZ.tmps[2]?=some (.pointer (some ⟨w.heap.size,0,none⟩)):=hr 2 (by decide);have wS:=C.keep hB;have ⟨k0,k1,_,_,_⟩:=wS.box;exact Rg.aG rfl (by (first | (go_simp;done) | (go_simp;exact Rg.wo (by omega))))
 ·intro _ zZ w_ hB hr
  have e23:=Rg.c_ (hr 23 (by decide));have ef:=Rg.ef zZ;exact Rg.bo rfl (by go_simp) (PC.out _)
 ·intro _ zZ w_ hB hr
  have e22:=Rg.c_ (hr 22 (by decide));have e24:=Rg.c_ (hr 24 (by decide));exact Rg.aG rfl (by go_simp <;> exact Rg.wo (by omega))
 ·intro _ zZ w_ hB hr
  have e20:=Rg.c_ (hr 20 (by decide));exact Rg.aG rfl (by go_simp)
 ·intro _ zZ w_ hB hr
  have e25:=Rg.c_ (hr 25 (by decide));exact Rg.aG rfl (by go_simp)
 ·intro _ zZ w_ hB hr
  have ec:=Rg.ec zZ;exact Rg.aG rfl (by go_simp)
 intro vals wz hB hv hne;have xI:vals 11=.int .i64 (((4*n) - 3) - cc):=hv 11 (by decide);have zO:vals 12=.int .i64 ((4*n)+cc):=hv 12 (by decide);have BV:vals 13=.bool true:=hv 13 (by decide);simp only [Rg.ay,Rg.fill,Act.put,Nat.reduceAdd];clear hv;simp only [xI,zO,BV];clear xI zO BV;replace B:=d_ B hB;clear hB hne;unfold Rg.aZ;go_wp2;exact bodyPost_ret (v:=.tuple #[.int .i64 (4*n - 3 - cc),.int .i64 (4*n+cc),.bool true]) (by simp [results,Tryz.results45,go_sem, *]) rfl (⟨rfl,B⟩)
theorem fZ (a b X Y E m:Int) (w:World) :
  Calls Tryz.prog 36 #[.agg #[.int .i64 a,.int .i64 b],.agg #[.int .i64 X,.int .i64 Y,.int .i64 E],.int .i64 m] w fun e w'=>e=.returned (.tuple #[.agg #[.int .i64 (M.yS (M.CC a b X Y E m)),.int .i64 (M.yT (M.CC a b X Y E m)),.int .i64 (M.yU (M.CC a b X Y E m)),.int .i64 (M.yV (M.CC a b X Y E m))],.bool (M.CC a b X Y E m).isSome])∧Below w.heap.size w w':=by
 have PT:∀ W,Calls Tryz.prog 55 #[.agg #[.int .i64 a,.int .i64 b],.agg #[.int .i64 X,.int .i64 Y,.int .i64 E]] W fun e w'=>e=.returned (.bool (M.bW a b X Y E))∧Below W.heap.size W w':=fun W=>dL a b X Y E W
 have PN:∀ W,Calls Tryz.prog 56 #[.int .i64 m,.int .i64 1,.int .i64 12] W fun e w'=>e=.returned (.bool (M.ins m 1 12))∧W=w':=fun W=>cK m 1 12 W
 unfold M.CC;obtain ⟨wc,hw3,C,Q,R,B⟩:=eJ w #[.int .i64 a,.int .i64 b] 25 #[.int .i64 X,.int .i64 Y,.int .i64 E] 27 #[.int .i64 0,.int .i64 0,.int .i64 0,.int .i64 0] 33;have f_:=C.box.c0;have g_:=C.box.c1;have ⟨q0,q1,q2⟩:=Q.aK
 cases h0:M.bW a b X Y E with
 | false=>
  simp only [h0,Bool.true_and,Bool.false_and,Bool.and_false] at PT PN ⊢;replace PT:=wH PT;replace PN:=wH PN;rw [M.j0];go_enter Tryz.func36,Tryz.ntmps36
  go_wp2_with (first | (go_at_call 55;(with_reducible refine (PT.out _).mono ?_);rintro e w4 ⟨rfl,hb4⟩;replace B:=d_ B hb4;replace C:=C.keep hb4;replace Q:=Q.keep hb4;replace R:=R.keep hb4;have f_:=C.box.c0;have g_:=C.box.c1;(have ⟨q0,q1,q2⟩:=Q.aK);(have ⟨r0,r1,r2,r3,z0,z1,z2,z3,rl⟩:=R.aP)) | (go_at_call 56;(with_reducible refine (PN.out _).mono ?_);rintro e w5 ⟨rfl,rfl⟩))
  exact bodyPost_ret (v:=.tuple #[.agg #[.int .i64 0,.int .i64 0,.int .i64 0,.int .i64 0],.bool false]) (by simp [results,Tryz.results36,go_sem, *]) rfl (⟨rfl,wJ (wJ (wJ (wJ B (by dsimp only;omega) _) (by dsimp only;omega) _) (by dsimp only;omega) _) (by dsimp only;omega) _⟩)
 | true=>
 cases h1:M.ins m 1 12 with
 | false=>
  simp only [h0,h1,Bool.true_and,Bool.false_and,Bool.and_false] at PT PN ⊢;replace PT:=wH PT;replace PN:=wH PN;rw [M.j0];go_enter Tryz.func36,Tryz.ntmps36
  go_wp2_with (first | (go_at_call 55;(with_reducible refine (PT.out _).mono ?_);rintro e w4 ⟨rfl,hb4⟩;replace B:=d_ B hb4;replace C:=C.keep hb4;replace Q:=Q.keep hb4;replace R:=R.keep hb4;have f_:=C.box.c0;have g_:=C.box.c1;(have ⟨q0,q1,q2⟩:=Q.aK);(have ⟨r0,r1,r2,r3,z0,z1,z2,z3,rl⟩:=R.aP)) | (go_at_call 56;(with_reducible refine (PN.out _).mono ?_);rintro e w5 ⟨rfl,rfl⟩))
  exact bodyPost_ret (v:=.tuple #[.agg #[.int .i64 0,.int .i64 0,.int .i64 0,.int .i64 0],.bool false]) (by simp [results,Tryz.results36,go_sem, *]) rfl (⟨rfl,wJ (wJ (wJ (wJ B (by dsimp only;omega) _) (by dsimp only;omega) _) (by dsimp only;omega) _) (by dsimp only;omega) _⟩)
 | true=>
 simp only [h0,h1,Bool.and_self] at PT PN ⊢;rw [M.fz];obtain ⟨n1,n2⟩:=M.cO.1 h1;obtain ⟨IV,lo1,lo2,lo3,BU⟩:=M.dI h0;obtain ⟨hg,hp⟩:=M.bP h0;obtain ⟨p1,p2,p3,p4,-,-⟩:=M.be (M.ag hg) hp
 have PR:=fun W=>cw a b X Y E W hg p1 p2 p3 p4
 rw [BU] at PR;rw [show M.bL a b X E (M.bN a b X E)=M.cW a b X E from rfl,show M.bH a b X E (M.bN a b X E)=M.cR a b X E from rfl] at PR;generalize ((M.bN a b X E:Nat):Int)=kk at *;clear h0 h1 hg hp p1 p2 p3 p4 BU;generalize M.cR a b X E=hi,M.cW a b X E=lo at *;have mlo:=M.aL (x:=lo) (y:=m) (m:=150000) (n:=12) (by omega) (by omega) (by omega) (by omega);have klo:=M.aL (x:=lo*m) (y:=m) (m:=1800000) (n:=12) (by omega) (by omega) (by omega) (by omega);have mhi:=M.aL (x:=hi) (y:=m) (m:=150000) (n:=12) (by omega) (by omega) (by omega) (by omega);have khi:=M.aL (x:=hi*m) (y:=m) (m:=1800000) (n:=12) (by omega) (by omega) (by omega) (by omega);obtain ⟨e1,e2,e3,e4,e5⟩:=M.k8 (lo*m*m) (hi*m*m);rw [e1,e2,e3,e4,e5];clear e1 e2 e3 e4 e5
 have PI:=fun W=>eu (lo*m*m) (hi*m*m) true W
 simp only [Bool.true_and] at PI;generalize M.aQ (lo*m*m) (hi*m*m)=ok,M.pick (M.aQ (lo*m*m) (hi*m*m)) (M.pd (hi*m*m))=i4,M.pick (M.aQ (lo*m*m) (hi*m*m)) (M.pn (hi*m*m))=i3,M.pick (M.aQ (lo*m*m) (hi*m*m)) (M.pd (lo*m*m))=i2,M.pick (M.aQ (lo*m*m) (hi*m*m)) (M.pn (lo*m*m))=i1 at *;replace PT:=wH PT;replace PN:=wH PN;replace PR:=wH PR;replace PI:=wH PI;go_enter Tryz.func36,Tryz.ntmps36
 go_wp2_with (first | (go_at_call 55;(with_reducible refine (PT.out _).mono ?_);rintro e w4 ⟨rfl,hb4⟩;replace B:=d_ B hb4;replace C:=C.keep hb4;replace Q:=Q.keep hb4;replace R:=R.keep hb4;have f_:=C.box.c0;have g_:=C.box.c1;(have ⟨q0,q1,q2⟩:=Q.aK);(have ⟨r0,r1,r2,r3,z0,z1,z2,z3,rl⟩:=R.aP)) | (go_at_call 56;(with_reducible refine (PN.out _).mono ?_);rintro e w5 ⟨rfl,rfl⟩) | (go_at_call 61;(with_reducible refine (PR.out _).mono ?_);rintro e w7 ⟨rfl,wg⟩;replace B:=d_ B wg;replace R:=R.keep wg;(have ⟨r0,r1,r2,r3,z0,z1,z2,z3,rl⟩:=R.aP);have B0:=B;have yK:=B.size;replace B:=B.alloc yK (.cells #[.int .i64 lo,.int .i64 hi] 74);replace R:=R.alloc (.cells #[.int .i64 lo,.int .i64 hi] 74);have V:=aH.new w7 #[.int .i64 lo,.int .i64 hi] 74;(have ⟨r0,r1,r2,r3,z0,z1,z2,z3,rl⟩:=R.aP);(have ⟨v0,v1,_,_,_⟩:=V.box)) | (go_at_call 58;(with_reducible refine (PI.out _).mono ?_);rintro e w8 ⟨rfl,xB⟩;replace B:=d_ B xB;replace R:=R.keep xB;(have ⟨r0,r1,r2,r3,z0,z1,z2,z3,rl⟩:=R.aP)))
 exact bodyPost_ret (v:=.tuple #[.agg #[.int .i64 i1,.int .i64 i2,.int .i64 i3,.int .i64 i4],.bool ok]) (by simp [results,Tryz.results36,go_sem, *]) rfl (⟨rfl,wJ (wJ (wJ (wJ B (by dsimp only;omega) _) (by dsimp only;omega) _) (by dsimp only;omega) _) (by dsimp only;omega) _⟩)
theorem fl (a b X Y E m:Int) (w:World) :
  Calls Tryz.prog 37 #[.agg #[.int .i64 a,.int .i64 b],.agg #[.int .i64 X,.int .i64 Y,.int .i64 E],.int .i64 m] w fun e w'=>e=.returned (.tuple #[.agg #[.int .i64 (M.yS (M.CC a b X Y E m)),.int .i64 (M.yT (M.CC a b X Y E m)),.int .i64 (M.yU (M.CC a b X Y E m)),.int .i64 (M.yV (M.CC a b X Y E m))],.bool (M.CC a b X Y E m).isSome])∧Below w.heap.size w w':=by
 have PT:∀ W,Calls Tryz.prog 62 #[.agg #[.int .i64 a,.int .i64 b],.agg #[.int .i64 X,.int .i64 Y,.int .i64 E]] W fun e w'=>e=.returned (.bool (M.bW a b X Y E))∧Below W.heap.size W w':=fun W=>cX a b X Y E W
 have PN:∀ W,Calls Tryz.prog 78 #[.int .i64 m,.int .i64 1,.int .i64 12] W fun e w'=>e=.returned (.bool (M.ins m 1 12))∧W=w':=fun W=>ch m 1 12 W
 unfold M.CC;obtain ⟨wc,hw3,C,Q,R,B⟩:=eJ w #[.int .i64 a,.int .i64 b] 25 #[.int .i64 X,.int .i64 Y,.int .i64 E] 27 #[.int .i64 0,.int .i64 0,.int .i64 0,.int .i64 0] 33;have f_:=C.box.c0;have g_:=C.box.c1;have ⟨q0,q1,q2⟩:=Q.aK
 cases h0:M.bW a b X Y E with
 | false=>
  simp only [h0,Bool.true_and,Bool.false_and,Bool.and_false] at PT PN ⊢;replace PT:=wH PT;replace PN:=wH PN;rw [M.j0];go_enter Tryz.func37,Tryz.ntmps37
  go_wp2_with (first | (go_at_call 62;(with_reducible refine (PT.out _).mono ?_);rintro e w4 ⟨rfl,hb4⟩;replace B:=d_ B hb4;replace C:=C.keep hb4;replace Q:=Q.keep hb4;replace R:=R.keep hb4;have f_:=C.box.c0;have g_:=C.box.c1;(have ⟨q0,q1,q2⟩:=Q.aK);(have ⟨r0,r1,r2,r3,z0,z1,z2,z3,rl⟩:=R.aP)) | (go_at_call 78;(with_reducible refine (PN.out _).mono ?_);rintro e w5 ⟨rfl,rfl⟩))
  exact bodyPost_ret (v:=.tuple #[.agg #[.int .i64 0,.int .i64 0,.int .i64 0,.int .i64 0],.bool false]) (by simp [results,Tryz.results37,go_sem, *]) rfl (⟨rfl,wJ (wJ (wJ (wJ B (by dsimp only;omega) _) (by dsimp only;omega) _) (by dsimp only;omega) _) (by dsimp only;omega) _⟩)
 | true=>
 cases h1:M.ins m 1 12 with
 | false=>
  simp only [h0,h1,Bool.true_and,Bool.false_and,Bool.and_false] at PT PN ⊢;replace PT:=wH PT;replace PN:=wH PN;rw [M.j0];go_enter Tryz.func37,Tryz.ntmps37
  go_wp2_with (first | (go_at_call 62;(with_reducible refine (PT.out _).mono ?_);rintro e w4 ⟨rfl,hb4⟩;replace B:=d_ B hb4;replace C:=C.keep hb4;replace Q:=Q.keep hb4;replace R:=R.keep hb4;have f_:=C.box.c0;have g_:=C.box.c1;(have ⟨q0,q1,q2⟩:=Q.aK);(have ⟨r0,r1,r2,r3,z0,z1,z2,z3,rl⟩:=R.aP)) | (go_at_call 78;(with_reducible refine (PN.out _).mono ?_);rintro e w5 ⟨rfl,rfl⟩))
  exact bodyPost_ret (v:=.tuple #[.agg #[.int .i64 0,.int .i64 0,.int .i64 0,.int .i64 0],.bool false]) (by simp [results,Tryz.results37,go_sem, *]) rfl (⟨rfl,wJ (wJ (wJ (wJ B (by dsimp only;omega) _) (by dsimp only;omega) _) (by dsimp only;omega) _) (by dsimp only;omega) _⟩)
 | true=>
 simp only [h0,h1,Bool.and_self] at PT PN ⊢;rw [M.fz];obtain ⟨n1,n2⟩:=M.cO.1 h1;obtain ⟨IV,lo1,lo2,lo3,BU⟩:=M.dI h0;obtain ⟨hg,hp⟩:=M.bP h0;obtain ⟨p1,p2,p3,p4,-,-⟩:=M.be (M.ag hg) hp
 have PR:=fun W=>eN a b X Y E W hg p1 p2 p3 p4
 rw [BU] at PR;simp only [M.bn] at PR;rw [show M.bL a b X E (M.bN a b X E)=M.cW a b X E from rfl,show M.bH a b X E (M.bN a b X E)=M.cR a b X E from rfl] at PR;generalize ((M.bN a b X E:Nat):Int)=kk at *;clear h0 h1 hg hp p1 p2 p3 p4 BU;generalize M.cR a b X E=hi,M.cW a b X E=lo at *;have mlo:=M.aL (x:=lo) (y:=m) (m:=150000) (n:=12) (by omega) (by omega) (by omega) (by omega);have klo:=M.aL (x:=lo*m) (y:=m) (m:=1800000) (n:=12) (by omega) (by omega) (by omega) (by omega);have mhi:=M.aL (x:=hi) (y:=m) (m:=150000) (n:=12) (by omega) (by omega) (by omega) (by omega);have khi:=M.aL (x:=hi*m) (y:=m) (m:=1800000) (n:=12) (by omega) (by omega) (by omega) (by omega);obtain ⟨e1,e2,e3,e4,e5⟩:=M.k8 (lo*m*m) (hi*m*m);rw [e1,e2,e3,e4,e5];clear e1 e2 e3 e4 e5
 have PI:=fun W=>gp (lo*m*m) (hi*m*m) W (by omega) (by omega) (by omega) (by omega)
 have PE:=fun W=>gn lo hi W (M.bS (by omega) (by omega)) (M.bS (by omega) (by omega))
 generalize M.pd hi=b4,M.pn hi=b3,M.pd lo=b2,M.pn lo=b1,M.aQ (lo*m*m) (hi*m*m)=ok,M.pick (M.aQ (lo*m*m) (hi*m*m)) (M.pd (hi*m*m))=i4,M.pick (M.aQ (lo*m*m) (hi*m*m)) (M.pn (hi*m*m))=i3,M.pick (M.aQ (lo*m*m) (hi*m*m)) (M.pd (lo*m*m))=i2,M.pick (M.aQ (lo*m*m) (hi*m*m)) (M.pn (lo*m*m))=i1 at *;replace PT:=wH PT;replace PN:=wH PN;replace PR:=wH PR;replace PI:=wH PI;replace PE:=wH PE;go_enter Tryz.func37,Tryz.ntmps37
 go_wp2_with (first | (go_at_call 62;(with_reducible refine (PT.out _).mono ?_);rintro e w4 ⟨rfl,hb4⟩;replace B:=d_ B hb4;replace C:=C.keep hb4;replace Q:=Q.keep hb4;replace R:=R.keep hb4;have f_:=C.box.c0;have g_:=C.box.c1;(have ⟨q0,q1,q2⟩:=Q.aK);(have ⟨r0,r1,r2,r3,z0,z1,z2,z3,rl⟩:=R.aP)) | (go_at_call 78;(with_reducible refine (PN.out _).mono ?_);rintro e w5 ⟨rfl,rfl⟩) | (go_at_call 63;(with_reducible refine (PR.out _).mono ?_);rintro e w7 ⟨rfl,wg⟩;replace B:=d_ B wg;replace R:=R.keep wg;(have ⟨r0,r1,r2,r3,z0,z1,z2,z3,rl⟩:=R.aP);have B0:=B;have yK:=B.size;replace B:=B.alloc yK (.cells #[.int .i64 b1,.int .i64 b2,.int .i64 b3,.int .i64 b4] 33);replace R:=R.alloc (.cells #[.int .i64 b1,.int .i64 b2,.int .i64 b3,.int .i64 b4] 33);have V:=aH.new w7 #[.int .i64 b1,.int .i64 b2,.int .i64 b3,.int .i64 b4] 33;(have ⟨r0,r1,r2,r3,z0,z1,z2,z3,rl⟩:=R.aP);(have ⟨v0,v1,v2,v3,_,_,_,_,_⟩:=V.aP)) | (go_at_call 101;(with_reducible refine (PE.out _).mono ?_);rintro e w8 ⟨rfl,xB⟩;replace B:=d_ B xB;replace R:=R.keep xB;(have ⟨r0,r1,r2,r3,z0,z1,z2,z3,rl⟩:=R.aP)) | (go_at_call 102;(with_reducible refine (PI.out _).mono ?_);rintro e w9 ⟨rfl,wb⟩;replace B:=d_ B wb;replace R:=R.keep wb;(have ⟨r0,r1,r2,r3,z0,z1,z2,z3,rl⟩:=R.aP)))
 exact bodyPost_ret (v:=.tuple #[.agg #[.int .i64 i1,.int .i64 i2,.int .i64 i3,.int .i64 i4],.bool ok]) (by simp [results,Tryz.results37,go_sem, *]) rfl (⟨rfl,wJ (wJ (wJ (wJ B (by dsimp only;omega) _) (by dsimp only;omega) _) (by dsimp only;omega) _) (by dsimp only;omega) _⟩)
theorem cg (a b X1 Y1 E1 X2 Y2 E2:Int) (w:World) :
  Calls Tryz.prog 47 #[.agg #[.int .i64 a,.int .i64 b],.agg #[.int .i64 X1,.int .i64 Y1,.int .i64 E1],.agg #[.int .i64 X2,.int .i64 Y2,.int .i64 E2]] w fun e w'=>e=.returned (.tuple #[.int .i64 (M.pick (M.bW a b X1 Y1 E1 && M.bW a b X2 Y2 E2) (M.iK a b X1 E1 X2 E2)),.bool (M.bW a b X1 Y1 E1 && M.bW a b X2 Y2 E2)])∧Below w.heap.size w w':=by
 have yH:∀ W,Calls Tryz.prog 55 #[.agg #[.int .i64 a,.int .i64 b],.agg #[.int .i64 X1,.int .i64 Y1,.int .i64 E1]] W fun e w'=>e=.returned (.bool (M.bW a b X1 Y1 E1))∧Below W.heap.size W w':=fun W=>dL a b X1 Y1 E1 W
 have yP:∀ W,Calls Tryz.prog 55 #[.agg #[.int .i64 a,.int .i64 b],.agg #[.int .i64 X2,.int .i64 Y2,.int .i64 E2]] W fun e w'=>e=.returned (.bool (M.bW a b X2 Y2 E2))∧Below W.heap.size W w':=fun W=>dL a b X2 Y2 E2 W
 obtain ⟨wc,hw3,C,Q,U,B⟩:=eJ w #[.int .i64 a,.int .i64 b] 25 #[.int .i64 X1,.int .i64 Y1,.int .i64 E1] 27 #[.int .i64 X2,.int .i64 Y2,.int .i64 E2] 27;have f_:=C.box.c0;have g_:=C.box.c1;have ⟨q0,q1,q2⟩:=Q.aK;have ⟨u0,u1,u2⟩:=U.aK
 cases h01:M.bW a b X1 Y1 E1 with
 | false=>
  simp only [h01,Bool.true_and,Bool.false_and,Bool.and_false] at yH yP ⊢;replace yH:=wH yH;replace yP:=wH yP;go_enter Tryz.func47,Tryz.ntmps47
  go_wp2_with (first | (go_at_call 55;(with_reducible refine (yH.out _).mono ?_);rintro e w4 ⟨rfl,hb4⟩;replace B:=d_ B hb4;replace C:=C.keep hb4;replace Q:=Q.keep hb4;replace U:=U.keep hb4;have f_:=C.box.c0;have g_:=C.box.c1;(have ⟨q0,q1,q2⟩:=Q.aK);(have ⟨u0,u1,u2⟩:=U.aK)) | (go_at_call 55;(with_reducible refine (yP.out _).mono ?_);rintro e w5 ⟨rfl,hb5⟩;replace B:=d_ B hb5;replace C:=C.keep hb5;replace Q:=Q.keep hb5;replace U:=U.keep hb5;have f_:=C.box.c0;have g_:=C.box.c1;(have ⟨q0,q1,q2⟩:=Q.aK);(have ⟨u0,u1,u2⟩:=U.aK)))
  go_ret2;exact ⟨rfl,B⟩
 | true=>
 cases h02:M.bW a b X2 Y2 E2 with
 | false=>
  simp only [h01,h02,Bool.true_and,Bool.false_and,Bool.and_false] at yH yP ⊢;replace yH:=wH yH;replace yP:=wH yP;go_enter Tryz.func47,Tryz.ntmps47
  go_wp2_with (first | (go_at_call 55;(with_reducible refine (yH.out _).mono ?_);rintro e w4 ⟨rfl,hb4⟩;replace B:=d_ B hb4;replace C:=C.keep hb4;replace Q:=Q.keep hb4;replace U:=U.keep hb4;have f_:=C.box.c0;have g_:=C.box.c1;(have ⟨q0,q1,q2⟩:=Q.aK);(have ⟨u0,u1,u2⟩:=U.aK)) | (go_at_call 55;(with_reducible refine (yP.out _).mono ?_);rintro e w5 ⟨rfl,hb5⟩;replace B:=d_ B hb5;replace C:=C.keep hb5;replace Q:=Q.keep hb5;replace U:=U.keep hb5;have f_:=C.box.c0;have g_:=C.box.c1;(have ⟨q0,q1,q2⟩:=Q.aK);(have ⟨u0,u1,u2⟩:=U.aK)))
  go_ret2;exact ⟨rfl,B⟩
 | true=>
 simp only [h01,h02,Bool.and_self] at yH yP ⊢;rw [M.bn];obtain ⟨IV,lo1,lo2,lo3,BU⟩:=M.dI h01;obtain ⟨hg1,hp1⟩:=M.bP h01;obtain ⟨IZ,Ib,p31,p41,-,-⟩:=M.be (M.ag hg1) hp1
 have yO:=fun W=>cw a b X1 Y1 E1 W hg1 IZ Ib p31 p41
 rw [BU] at yO;rw [show M.bL a b X1 E1 (M.bN a b X1 E1)=M.cW a b X1 E1 from rfl,show M.bH a b X1 E1 (M.bN a b X1 E1)=M.cR a b X1 E1 from rfl] at yO;generalize ((M.bN a b X1 E1:Nat):Int)=k1 at *;obtain ⟨lp0,lp1,lp2,lp3,IW⟩:=M.dI h02;obtain ⟨hg2,hp2⟩:=M.bP h02;obtain ⟨Ia,Ic,p32,p42,-,-⟩:=M.be (M.ag hg2) hp2
 have yR:=fun W=>cw a b X2 Y2 E2 W hg2 Ia Ic p32 p42
 rw [IW] at yR;rw [show M.bL a b X2 E2 (M.bN a b X2 E2)=M.cW a b X2 E2 from rfl,show M.bH a b X2 E2 (M.bN a b X2 E2)=M.cR a b X2 E2 from rfl] at yR;generalize ((M.bN a b X2 E2:Nat):Int)=k2 at *;clear h01 h02 hg1 hp1 IZ Ib p31 p41 hg2 hp2 Ia Ic p32 p42 BU IW;unfold M.iK;generalize M.cR a b X2 E2=hq,M.cW a b X2 E2=lp,M.cR a b X1 E1=hi,M.cW a b X1 E1=lo at *
 by_cases q1:hi<lp
 ·rw [if_pos q1]
  replace yH:=wH yH;replace yP:=wH yP;replace yO:=wH yO;replace yR:=wH yR;go_enter Tryz.func47,Tryz.ntmps47
  go_wp2_with (first | (go_at_call 55;(with_reducible refine (yH.out _).mono ?_);rintro e w4 ⟨rfl,hb4⟩;replace B:=d_ B hb4;replace C:=C.keep hb4;replace Q:=Q.keep hb4;replace U:=U.keep hb4;have f_:=C.box.c0;have g_:=C.box.c1;(have ⟨q0,q1,q2⟩:=Q.aK);(have ⟨u0,u1,u2⟩:=U.aK)) | (go_at_call 55;(with_reducible refine (yP.out _).mono ?_);rintro e w5 ⟨rfl,hb5⟩;replace B:=d_ B hb5;replace C:=C.keep hb5;replace Q:=Q.keep hb5;replace U:=U.keep hb5;have f_:=C.box.c0;have g_:=C.box.c1;(have ⟨q0,q1,q2⟩:=Q.aK);(have ⟨u0,u1,u2⟩:=U.aK)) | (go_at_call 61;(with_reducible refine (yO.out _).mono ?_);rintro e w6 ⟨rfl,hb6⟩;replace B:=d_ B hb6;replace C:=C.keep hb6;replace Q:=Q.keep hb6;replace U:=U.keep hb6;have f_:=C.box.c0;have g_:=C.box.c1;(have ⟨q0,q1,q2⟩:=Q.aK);(have ⟨u0,u1,u2⟩:=U.aK);have B0:=B;have BF:=B.size;replace B:=B.alloc BF (.cells #[.int .i64 lo,.int .i64 hi] 74);replace C:=C.alloc (.cells #[.int .i64 lo,.int .i64 hi] 74);replace Q:=Q.alloc (.cells #[.int .i64 lo,.int .i64 hi] 74);replace U:=U.alloc (.cells #[.int .i64 lo,.int .i64 hi] 74);have V:=aH.new w6 #[.int .i64 lo,.int .i64 hi] 74;have f_:=C.box.c0;have g_:=C.box.c1;(have ⟨q0,q1,q2⟩:=Q.aK);(have ⟨u0,u1,u2⟩:=U.aK);(have ⟨v0,v1,_,_,_⟩:=V.box)) | (go_at_call 61;(with_reducible refine (yR.out _).mono ?_);rintro e w7 ⟨rfl,wg⟩;replace B:=d_ B wg;replace C:=C.keep wg;replace Q:=Q.keep wg;replace U:=U.keep wg;have f_:=C.box.c0;have g_:=C.box.c1;(have ⟨q0,q1,q2⟩:=Q.aK);(have ⟨u0,u1,u2⟩:=U.aK);replace V:=V.keep wg;have B0:=B;have yK:=B.size;replace B:=B.alloc yK (.cells #[.int .i64 lp,.int .i64 hq] 74);replace C:=C.alloc (.cells #[.int .i64 lp,.int .i64 hq] 74);replace Q:=Q.alloc (.cells #[.int .i64 lp,.int .i64 hq] 74);replace U:=U.alloc (.cells #[.int .i64 lp,.int .i64 hq] 74);have V2:=aH.new w7 #[.int .i64 lp,.int .i64 hq] 74;have f_:=C.box.c0;have g_:=C.box.c1;(have ⟨q0,q1,q2⟩:=Q.aK);(have ⟨u0,u1,u2⟩:=U.aK);replace V:=V.alloc (.cells #[.int .i64 lp,.int .i64 hq] 74);(have ⟨v0,v1,_,_,_⟩:=V.box);(have ⟨v2,v3,_,_,_⟩:=V2.box)))
  go_ret2;exact ⟨rfl,B⟩
 rw [if_neg q1]
 by_cases q2:hq<lo
 ·rw [if_pos q2]
  replace yH:=wH yH;replace yP:=wH yP;replace yO:=wH yO;replace yR:=wH yR;go_enter Tryz.func47,Tryz.ntmps47
  go_wp2_with (first | (go_at_call 55;(with_reducible refine (yH.out _).mono ?_);rintro e w4 ⟨rfl,hb4⟩;replace B:=d_ B hb4;replace C:=C.keep hb4;replace Q:=Q.keep hb4;replace U:=U.keep hb4;have f_:=C.box.c0;have g_:=C.box.c1;(have ⟨q0,q1,q2⟩:=Q.aK);(have ⟨u0,u1,u2⟩:=U.aK)) | (go_at_call 55;(with_reducible refine (yP.out _).mono ?_);rintro e w5 ⟨rfl,hb5⟩;replace B:=d_ B hb5;replace C:=C.keep hb5;replace Q:=Q.keep hb5;replace U:=U.keep hb5;have f_:=C.box.c0;have g_:=C.box.c1;(have ⟨q0,q1,q2⟩:=Q.aK);(have ⟨u0,u1,u2⟩:=U.aK)) | (go_at_call 61;(with_reducible refine (yO.out _).mono ?_);rintro e w6 ⟨rfl,hb6⟩;replace B:=d_ B hb6;replace C:=C.keep hb6;replace Q:=Q.keep hb6;replace U:=U.keep hb6;have f_:=C.box.c0;have g_:=C.box.c1;(have ⟨q0,q1,q2⟩:=Q.aK);(have ⟨u0,u1,u2⟩:=U.aK);have B0:=B;have BF:=B.size;replace B:=B.alloc BF (.cells #[.int .i64 lo,.int .i64 hi] 74);replace C:=C.alloc (.cells #[.int .i64 lo,.int .i64 hi] 74);replace Q:=Q.alloc (.cells #[.int .i64 lo,.int .i64 hi] 74);replace U:=U.alloc (.cells #[.int .i64 lo,.int .i64 hi] 74);have V:=aH.new w6 #[.int .i64 lo,.int .i64 hi] 74;have f_:=C.box.c0;have g_:=C.box.c1;(have ⟨q0,q1,q2⟩:=Q.aK);(have ⟨u0,u1,u2⟩:=U.aK);(have ⟨v0,v1,_,_,_⟩:=V.box)) | (go_at_call 61;(with_reducible refine (yR.out _).mono ?_);rintro e w7 ⟨rfl,wg⟩;replace B:=d_ B wg;replace C:=C.keep wg;replace Q:=Q.keep wg;replace U:=U.keep wg;have f_:=C.box.c0;have g_:=C.box.c1;(have ⟨q0,q1,q2⟩:=Q.aK);(have ⟨u0,u1,u2⟩:=U.aK);replace V:=V.keep wg;have B0:=B;have yK:=B.size;replace B:=B.alloc yK (.cells #[.int .i64 lp,.int .i64 hq] 74);replace C:=C.alloc (.cells #[.int .i64 lp,.int .i64 hq] 74);replace Q:=Q.alloc (.cells #[.int .i64 lp,.int .i64 hq] 74);replace U:=U.alloc (.cells #[.int .i64 lp,.int .i64 hq] 74);have V2:=aH.new w7 #[.int .i64 lp,.int .i64 hq] 74;have f_:=C.box.c0;have g_:=C.box.c1;(have ⟨q0,q1,q2⟩:=Q.aK);(have ⟨u0,u1,u2⟩:=U.aK);replace V:=V.alloc (.cells #[.int .i64 lp,.int .i64 hq] 74);(have ⟨v0,v1,_,_,_⟩:=V.box);(have ⟨v2,v3,_,_,_⟩:=V2.box)))
  go_ret2;exact ⟨rfl,B⟩
 rw [if_neg q2];replace yH:=wH yH;replace yP:=wH yP;replace yO:=wH yO;replace yR:=wH yR;go_enter Tryz.func47,Tryz.ntmps47
 go_wp2_with (first | (go_at_call 55;(with_reducible refine (yH.out _).mono ?_);rintro e w4 ⟨rfl,hb4⟩;replace B:=d_ B hb4;replace C:=C.keep hb4;replace Q:=Q.keep hb4;replace U:=U.keep hb4;have f_:=C.box.c0;have g_:=C.box.c1;(have ⟨q0,q1,q2⟩:=Q.aK);(have ⟨u0,u1,u2⟩:=U.aK)) | (go_at_call 55;(with_reducible refine (yP.out _).mono ?_);rintro e w5 ⟨rfl,hb5⟩;replace B:=d_ B hb5;replace C:=C.keep hb5;replace Q:=Q.keep hb5;replace U:=U.keep hb5;have f_:=C.box.c0;have g_:=C.box.c1;(have ⟨q0,q1,q2⟩:=Q.aK);(have ⟨u0,u1,u2⟩:=U.aK)) | (go_at_call 61;(with_reducible refine (yO.out _).mono ?_);rintro e w6 ⟨rfl,hb6⟩;replace B:=d_ B hb6;replace C:=C.keep hb6;replace Q:=Q.keep hb6;replace U:=U.keep hb6;have f_:=C.box.c0;have g_:=C.box.c1;(have ⟨q0,q1,q2⟩:=Q.aK);(have ⟨u0,u1,u2⟩:=U.aK);have B0:=B;have BF:=B.size;replace B:=B.alloc BF (.cells #[.int .i64 lo,.int .i64 hi] 74);replace C:=C.alloc (.cells #[.int .i64 lo,.int .i64 hi] 74);replace Q:=Q.alloc (.cells #[.int .i64 lo,.int .i64 hi] 74);replace U:=U.alloc (.cells #[.int .i64 lo,.int .i64 hi] 74);have V:=aH.new w6 #[.int .i64 lo,.int .i64 hi] 74;have f_:=C.box.c0;have g_:=C.box.c1;(have ⟨q0,q1,q2⟩:=Q.aK);(have ⟨u0,u1,u2⟩:=U.aK);(have ⟨v0,v1,_,_,_⟩:=V.box)) | (go_at_call 61;(with_reducible refine (yR.out _).mono ?_);rintro e w7 ⟨rfl,wg⟩;replace B:=d_ B wg;replace C:=C.keep wg;replace Q:=Q.keep wg;replace U:=U.keep wg;have f_:=C.box.c0;have g_:=C.box.c1;(have ⟨q0,q1,q2⟩:=Q.aK);(have ⟨u0,u1,u2⟩:=U.aK);replace V:=V.keep wg;have B0:=B;have yK:=B.size;replace B:=B.alloc yK (.cells #[.int .i64 lp,.int .i64 hq] 74);replace C:=C.alloc (.cells #[.int .i64 lp,.int .i64 hq] 74);replace Q:=Q.alloc (.cells #[.int .i64 lp,.int .i64 hq] 74);replace U:=U.alloc (.cells #[.int .i64 lp,.int .i64 hq] 74);have V2:=aH.new w7 #[.int .i64 lp,.int .i64 hq] 74;have f_:=C.box.c0;have g_:=C.box.c1;(have ⟨q0,q1,q2⟩:=Q.aK);(have ⟨u0,u1,u2⟩:=U.aK);replace V:=V.alloc (.cells #[.int .i64 lp,.int .i64 hq] 74);(have ⟨v0,v1,_,_,_⟩:=V.box);(have ⟨v2,v3,_,_,_⟩:=V2.box)))
 go_ret2;exact ⟨rfl,B⟩
theorem fh (a b X1 Y1 E1 X2 Y2 E2:Int) (w:World) :
  Calls Tryz.prog 48 #[.agg #[.int .i64 a,.int .i64 b],.agg #[.int .i64 X1,.int .i64 Y1,.int .i64 E1],.agg #[.int .i64 X2,.int .i64 Y2,.int .i64 E2]] w fun e w'=>e=.returned (.tuple #[.int .i64 (M.pick (M.bW a b X1 Y1 E1 && M.bW a b X2 Y2 E2) (M.iK a b X1 E1 X2 E2)),.bool (M.bW a b X1 Y1 E1 && M.bW a b X2 Y2 E2)])∧Below w.heap.size w w':=by
 have yH:∀ W,Calls Tryz.prog 62 #[.agg #[.int .i64 a,.int .i64 b],.agg #[.int .i64 X1,.int .i64 Y1,.int .i64 E1]] W fun e w'=>e=.returned (.bool (M.bW a b X1 Y1 E1))∧Below W.heap.size W w':=fun W=>cX a b X1 Y1 E1 W
 have yP:∀ W,Calls Tryz.prog 62 #[.agg #[.int .i64 a,.int .i64 b],.agg #[.int .i64 X2,.int .i64 Y2,.int .i64 E2]] W fun e w'=>e=.returned (.bool (M.bW a b X2 Y2 E2))∧Below W.heap.size W w':=fun W=>cX a b X2 Y2 E2 W
 obtain ⟨wc,hw3,C,Q,U,B⟩:=eJ w #[.int .i64 a,.int .i64 b] 25 #[.int .i64 X1,.int .i64 Y1,.int .i64 E1] 27 #[.int .i64 X2,.int .i64 Y2,.int .i64 E2] 27;have f_:=C.box.c0;have g_:=C.box.c1;have ⟨q0,q1,q2⟩:=Q.aK;have ⟨u0,u1,u2⟩:=U.aK
 cases h01:M.bW a b X1 Y1 E1 with
 | false=>
  simp only [h01,Bool.true_and,Bool.false_and,Bool.and_false] at yH yP ⊢;replace yH:=wH yH;replace yP:=wH yP;go_enter Tryz.func48,Tryz.ntmps48
  go_wp2_with (first | (go_at_call 62;(with_reducible refine (yH.out _).mono ?_);rintro e w4 ⟨rfl,hb4⟩;replace B:=d_ B hb4;replace C:=C.keep hb4;replace Q:=Q.keep hb4;replace U:=U.keep hb4;have f_:=C.box.c0;have g_:=C.box.c1;(have ⟨q0,q1,q2⟩:=Q.aK);(have ⟨u0,u1,u2⟩:=U.aK)) | (go_at_call 62;(with_reducible refine (yP.out _).mono ?_);rintro e w5 ⟨rfl,hb5⟩;replace B:=d_ B hb5;replace C:=C.keep hb5;replace Q:=Q.keep hb5;replace U:=U.keep hb5;have f_:=C.box.c0;have g_:=C.box.c1;(have ⟨q0,q1,q2⟩:=Q.aK);(have ⟨u0,u1,u2⟩:=U.aK)))
  go_ret2;exact ⟨rfl,B⟩
 | true=>
 cases h02:M.bW a b X2 Y2 E2 with
 | false=>
  simp only [h01,h02,Bool.true_and,Bool.false_and,Bool.and_false] at yH yP ⊢;replace yH:=wH yH;replace yP:=wH yP;go_enter Tryz.func48,Tryz.ntmps48
  go_wp2_with (first | (go_at_call 62;(with_reducible refine (yH.out _).mono ?_);rintro e w4 ⟨rfl,hb4⟩;replace B:=d_ B hb4;replace C:=C.keep hb4;replace Q:=Q.keep hb4;replace U:=U.keep hb4;have f_:=C.box.c0;have g_:=C.box.c1;(have ⟨q0,q1,q2⟩:=Q.aK);(have ⟨u0,u1,u2⟩:=U.aK)) | (go_at_call 62;(with_reducible refine (yP.out _).mono ?_);rintro e w5 ⟨rfl,hb5⟩;replace B:=d_ B hb5;replace C:=C.keep hb5;replace Q:=Q.keep hb5;replace U:=U.keep hb5;have f_:=C.box.c0;have g_:=C.box.c1;(have ⟨q0,q1,q2⟩:=Q.aK);(have ⟨u0,u1,u2⟩:=U.aK)))
  go_ret2;exact ⟨rfl,B⟩
 | true=>
 simp only [h01,h02,Bool.and_self] at yH yP ⊢;rw [M.bn];obtain ⟨IV,lo1,lo2,lo3,BU⟩:=M.dI h01;obtain ⟨hg1,hp1⟩:=M.bP h01;obtain ⟨IZ,Ib,p31,p41,-,-⟩:=M.be (M.ag hg1) hp1
 have yO:=fun W=>eN a b X1 Y1 E1 W hg1 IZ Ib p31 p41
 rw [BU] at yO;simp only [M.bn] at yO;rw [show M.bL a b X1 E1 (M.bN a b X1 E1)=M.cW a b X1 E1 from rfl,show M.bH a b X1 E1 (M.bN a b X1 E1)=M.cR a b X1 E1 from rfl] at yO;generalize ((M.bN a b X1 E1:Nat):Int)=k1 at *;obtain ⟨lp0,lp1,lp2,lp3,IW⟩:=M.dI h02;obtain ⟨hg2,hp2⟩:=M.bP h02;obtain ⟨Ia,Ic,p32,p42,-,-⟩:=M.be (M.ag hg2) hp2
 have yR:=fun W=>eN a b X2 Y2 E2 W hg2 Ia Ic p32 p42
 rw [IW] at yR;simp only [M.bn] at yR;rw [show M.bL a b X2 E2 (M.bN a b X2 E2)=M.cW a b X2 E2 from rfl,show M.bH a b X2 E2 (M.bN a b X2 E2)=M.cR a b X2 E2 from rfl] at yR;generalize ((M.bN a b X2 E2:Nat):Int)=k2 at *;clear h01 h02 hg1 hp1 IZ Ib p31 p41 hg2 hp2 Ia Ic p32 p42 BU IW;unfold M.iK;generalize M.cR a b X2 E2=hq,M.cW a b X2 E2=lp,M.cR a b X1 E1=hi,M.cW a b X1 E1=lo at *;have JM:=M.rg lo3;have HK:=M.rg lp3;have c1:=M.rf (x:=hi) (y:=lp) (by omega) (by omega) (by omega) (by omega);have c2:=M.rf (x:=hq) (y:=lo) (by omega) (by omega) (by omega) (by omega);have s1:=M.aL (x:=M.pn hi) (y:=M.pd lp) (m:=1000000000) (n:=4096) (by omega) (by omega) (by omega) (by omega);have s2:=M.aL (x:=M.pn lp) (y:=M.pd hi) (m:=1000000000) (n:=4096) (by omega) (by omega) (by omega) (by omega);have s3:=M.aL (x:=M.pn hq) (y:=M.pd lo) (m:=1000000000) (n:=4096) (by omega) (by omega) (by omega) (by omega);have s4:=M.aL (x:=M.pn lo) (y:=M.pd hq) (m:=1000000000) (n:=4096) (by omega) (by omega) (by omega) (by omega)
 have DG:=fun W=>iQ (M.pn hi) (M.pd hi) (M.pn lp) (M.pd lp) W (by omega) (by omega) (by omega) (by omega)
 have DH:=fun W=>iQ (M.pn hq) (M.pd hq) (M.pn lo) (M.pd lo) W (by omega) (by omega) (by omega) (by omega)
 rw [show decide (M.pn hi*M.pd lp<M.pn lp*M.pd hi)=decide (hi<lp) from decide_eq_decide.2 c1] at DG;rw [show decide (M.pn hq*M.pd lo<M.pn lo*M.pd hq)=decide (hq<lo) from decide_eq_decide.2 c2] at DH;clear JM HK c1 c2 s1 s2 s3 s4;generalize M.pd hq=d4,M.pn hq=d3,M.pd lp=d2,M.pn lp=d1,M.pd hi=b4,M.pn hi=b3,M.pd lo=b2,M.pn lo=b1 at *
 by_cases q1:hi<lp
 ·rw [if_pos q1]
  rw [decide_eq_true q1] at DG;replace yH:=wH yH;replace yP:=wH yP;replace yO:=wH yO;replace yR:=wH yR;replace DG:=wH DG;replace DH:=wH DH;go_enter Tryz.func48,Tryz.ntmps48
  go_wp2_with (first | (go_at_call 62;(with_reducible refine (yH.out _).mono ?_);rintro e w4 ⟨rfl,hb4⟩;replace B:=d_ B hb4;replace C:=C.keep hb4;replace Q:=Q.keep hb4;replace U:=U.keep hb4;have f_:=C.box.c0;have g_:=C.box.c1;(have ⟨q0,q1,q2⟩:=Q.aK);(have ⟨u0,u1,u2⟩:=U.aK)) | (go_at_call 62;(with_reducible refine (yP.out _).mono ?_);rintro e w5 ⟨rfl,hb5⟩;replace B:=d_ B hb5;replace C:=C.keep hb5;replace Q:=Q.keep hb5;replace U:=U.keep hb5;have f_:=C.box.c0;have g_:=C.box.c1;(have ⟨q0,q1,q2⟩:=Q.aK);(have ⟨u0,u1,u2⟩:=U.aK)) | (go_at_call 63;(with_reducible refine (yO.out _).mono ?_);rintro e w6 ⟨rfl,hb6⟩;replace B:=d_ B hb6;replace C:=C.keep hb6;replace Q:=Q.keep hb6;replace U:=U.keep hb6;have f_:=C.box.c0;have g_:=C.box.c1;(have ⟨q0,q1,q2⟩:=Q.aK);(have ⟨u0,u1,u2⟩:=U.aK);have B0:=B;have BF:=B.size;replace B:=B.alloc BF (.cells #[.int .i64 b1,.int .i64 b2,.int .i64 b3,.int .i64 b4] 33);replace C:=C.alloc (.cells #[.int .i64 b1,.int .i64 b2,.int .i64 b3,.int .i64 b4] 33);replace Q:=Q.alloc (.cells #[.int .i64 b1,.int .i64 b2,.int .i64 b3,.int .i64 b4] 33);replace U:=U.alloc (.cells #[.int .i64 b1,.int .i64 b2,.int .i64 b3,.int .i64 b4] 33);have V:=aH.new w6 #[.int .i64 b1,.int .i64 b2,.int .i64 b3,.int .i64 b4] 33;have f_:=C.box.c0;have g_:=C.box.c1;(have ⟨q0,q1,q2⟩:=Q.aK);(have ⟨u0,u1,u2⟩:=U.aK);(have ⟨v0,v1,v2,v3,_,_,_,_,_⟩:=V.aP)) | (go_at_call 63;(with_reducible refine (yR.out _).mono ?_);rintro e w7 ⟨rfl,wg⟩;replace B:=d_ B wg;replace C:=C.keep wg;replace Q:=Q.keep wg;replace U:=U.keep wg;have f_:=C.box.c0;have g_:=C.box.c1;(have ⟨q0,q1,q2⟩:=Q.aK);(have ⟨u0,u1,u2⟩:=U.aK);replace V:=V.keep wg;have B0:=B;have yK:=B.size;replace B:=B.alloc yK (.cells #[.int .i64 d1,.int .i64 d2,.int .i64 d3,.int .i64 d4] 33);replace C:=C.alloc (.cells #[.int .i64 d1,.int .i64 d2,.int .i64 d3,.int .i64 d4] 33);replace Q:=Q.alloc (.cells #[.int .i64 d1,.int .i64 d2,.int .i64 d3,.int .i64 d4] 33);replace U:=U.alloc (.cells #[.int .i64 d1,.int .i64 d2,.int .i64 d3,.int .i64 d4] 33);have V2:=aH.new w7 #[.int .i64 d1,.int .i64 d2,.int .i64 d3,.int .i64 d4] 33;have f_:=C.box.c0;have g_:=C.box.c1;(have ⟨q0,q1,q2⟩:=Q.aK);(have ⟨u0,u1,u2⟩:=U.aK);replace V:=V.alloc (.cells #[.int .i64 d1,.int .i64 d2,.int .i64 d3,.int .i64 d4] 33);(have ⟨v0,v1,v2,v3,_,_,_,_,_⟩:=V.aP);(have ⟨x0,x1,x2,x3,_,_,_,_,_⟩:=V2.aP)) | (go_at_call 111;(with_reducible refine (DG.out _).mono ?_);rintro e w8 ⟨rfl,xB⟩;replace B:=d_ B xB;replace V:=V.keep xB;replace V2:=V2.keep xB;(have ⟨v0,v1,v2,v3,_,_,_,_,_⟩:=V.aP);(have ⟨x0,x1,x2,x3,_,_,_,_,_⟩:=V2.aP)) | (go_at_call 111;(with_reducible refine (DH.out _).mono ?_);rintro e w9 ⟨rfl,wb⟩;replace B:=d_ B wb))
  go_ret2;exact ⟨rfl,B⟩
 rw [if_neg q1];rw [decide_eq_false q1] at DG
 by_cases q2:hq<lo
 ·rw [if_pos q2]
  rw [decide_eq_true q2] at DH;replace yH:=wH yH;replace yP:=wH yP;replace yO:=wH yO;replace yR:=wH yR;replace DG:=wH DG;replace DH:=wH DH;go_enter Tryz.func48,Tryz.ntmps48
  go_wp2_with (first | (go_at_call 62;(with_reducible refine (yH.out _).mono ?_);rintro e w4 ⟨rfl,hb4⟩;replace B:=d_ B hb4;replace C:=C.keep hb4;replace Q:=Q.keep hb4;replace U:=U.keep hb4;have f_:=C.box.c0;have g_:=C.box.c1;(have ⟨q0,q1,q2⟩:=Q.aK);(have ⟨u0,u1,u2⟩:=U.aK)) | (go_at_call 62;(with_reducible refine (yP.out _).mono ?_);rintro e w5 ⟨rfl,hb5⟩;replace B:=d_ B hb5;replace C:=C.keep hb5;replace Q:=Q.keep hb5;replace U:=U.keep hb5;have f_:=C.box.c0;have g_:=C.box.c1;(have ⟨q0,q1,q2⟩:=Q.aK);(have ⟨u0,u1,u2⟩:=U.aK)) | (go_at_call 63;(with_reducible refine (yO.out _).mono ?_);rintro e w6 ⟨rfl,hb6⟩;replace B:=d_ B hb6;replace C:=C.keep hb6;replace Q:=Q.keep hb6;replace U:=U.keep hb6;have f_:=C.box.c0;have g_:=C.box.c1;(have ⟨q0,q1,q2⟩:=Q.aK);(have ⟨u0,u1,u2⟩:=U.aK);have B0:=B;have BF:=B.size;replace B:=B.alloc BF (.cells #[.int .i64 b1,.int .i64 b2,.int .i64 b3,.int .i64 b4] 33);replace C:=C.alloc (.cells #[.int .i64 b1,.int .i64 b2,.int .i64 b3,.int .i64 b4] 33);replace Q:=Q.alloc (.cells #[.int .i64 b1,.int .i64 b2,.int .i64 b3,.int .i64 b4] 33);replace U:=U.alloc (.cells #[.int .i64 b1,.int .i64 b2,.int .i64 b3,.int .i64 b4] 33);have V:=aH.new w6 #[.int .i64 b1,.int .i64 b2,.int .i64 b3,.int .i64 b4] 33;have f_:=C.box.c0;have g_:=C.box.c1;(have ⟨q0,q1,q2⟩:=Q.aK);(have ⟨u0,u1,u2⟩:=U.aK);(have ⟨v0,v1,v2,v3,_,_,_,_,_⟩:=V.aP)) | (go_at_call 63;(with_reducible refine (yR.out _).mono ?_);rintro e w7 ⟨rfl,wg⟩;replace B:=d_ B wg;replace C:=C.keep wg;replace Q:=Q.keep wg;replace U:=U.keep wg;have f_:=C.box.c0;have g_:=C.box.c1;(have ⟨q0,q1,q2⟩:=Q.aK);(have ⟨u0,u1,u2⟩:=U.aK);replace V:=V.keep wg;have B0:=B;have yK:=B.size;replace B:=B.alloc yK (.cells #[.int .i64 d1,.int .i64 d2,.int .i64 d3,.int .i64 d4] 33);replace C:=C.alloc (.cells #[.int .i64 d1,.int .i64 d2,.int .i64 d3,.int .i64 d4] 33);replace Q:=Q.alloc (.cells #[.int .i64 d1,.int .i64 d2,.int .i64 d3,.int .i64 d4] 33);replace U:=U.alloc (.cells #[.int .i64 d1,.int .i64 d2,.int .i64 d3,.int .i64 d4] 33);have V2:=aH.new w7 #[.int .i64 d1,.int .i64 d2,.int .i64 d3,.int .i64 d4] 33;have f_:=C.box.c0;have g_:=C.box.c1;(have ⟨q0,q1,q2⟩:=Q.aK);(have ⟨u0,u1,u2⟩:=U.aK);replace V:=V.alloc (.cells #[.int .i64 d1,.int .i64 d2,.int .i64 d3,.int .i64 d4] 33);(have ⟨v0,v1,v2,v3,_,_,_,_,_⟩:=V.aP);(have ⟨x0,x1,x2,x3,_,_,_,_,_⟩:=V2.aP)) | (go_at_call 111;(with_reducible refine (DG.out _).mono ?_);rintro e w8 ⟨rfl,xB⟩;replace B:=d_ B xB;replace V:=V.keep xB;replace V2:=V2.keep xB;(have ⟨v0,v1,v2,v3,_,_,_,_,_⟩:=V.aP);(have ⟨x0,x1,x2,x3,_,_,_,_,_⟩:=V2.aP)) | (go_at_call 111;(with_reducible refine (DH.out _).mono ?_);rintro e w9 ⟨rfl,wb⟩;replace B:=d_ B wb))
  go_ret2;exact ⟨rfl,B⟩
 rw [if_neg q2];rw [decide_eq_false q2] at DH;replace yH:=wH yH;replace yP:=wH yP;replace yO:=wH yO;replace yR:=wH yR;replace DG:=wH DG;replace DH:=wH DH;go_enter Tryz.func48,Tryz.ntmps48
 go_wp2_with (first | (go_at_call 62;(with_reducible refine (yH.out _).mono ?_);rintro e w4 ⟨rfl,hb4⟩;replace B:=d_ B hb4;replace C:=C.keep hb4;replace Q:=Q.keep hb4;replace U:=U.keep hb4;have f_:=C.box.c0;have g_:=C.box.c1;(have ⟨q0,q1,q2⟩:=Q.aK);(have ⟨u0,u1,u2⟩:=U.aK)) | (go_at_call 62;(with_reducible refine (yP.out _).mono ?_);rintro e w5 ⟨rfl,hb5⟩;replace B:=d_ B hb5;replace C:=C.keep hb5;replace Q:=Q.keep hb5;replace U:=U.keep hb5;have f_:=C.box.c0;have g_:=C.box.c1;(have ⟨q0,q1,q2⟩:=Q.aK);(have ⟨u0,u1,u2⟩:=U.aK)) | (go_at_call 63;(with_reducible refine (yO.out _).mono ?_);rintro e w6 ⟨rfl,hb6⟩;replace B:=d_ B hb6;replace C:=C.keep hb6;replace Q:=Q.keep hb6;replace U:=U.keep hb6;have f_:=C.box.c0;have g_:=C.box.c1;(have ⟨q0,q1,q2⟩:=Q.aK);(have ⟨u0,u1,u2⟩:=U.aK);have B0:=B;have BF:=B.size;replace B:=B.alloc BF (.cells #[.int .i64 b1,.int .i64 b2,.int .i64 b3,.int .i64 b4] 33);replace C:=C.alloc (.cells #[.int .i64 b1,.int .i64 b2,.int .i64 b3,.int .i64 b4] 33);replace Q:=Q.alloc (.cells #[.int .i64 b1,.int .i64 b2,.int .i64 b3,.int .i64 b4] 33);replace U:=U.alloc (.cells #[.int .i64 b1,.int .i64 b2,.int .i64 b3,.int .i64 b4] 33);have V:=aH.new w6 #[.int .i64 b1,.int .i64 b2,.int .i64 b3,.int .i64 b4] 33;have f_:=C.box.c0;have g_:=C.box.c1;(have ⟨q0,q1,q2⟩:=Q.aK);(have ⟨u0,u1,u2⟩:=U.aK);(have ⟨v0,v1,v2,v3,_,_,_,_,_⟩:=V.aP)) | (go_at_call 63;(with_reducible refine (yR.out _).mono ?_);rintro e w7 ⟨rfl,wg⟩;replace B:=d_ B wg;replace C:=C.keep wg;replace Q:=Q.keep wg;replace U:=U.keep wg;have f_:=C.box.c0;have g_:=C.box.c1;(have ⟨q0,q1,q2⟩:=Q.aK);(have ⟨u0,u1,u2⟩:=U.aK);replace V:=V.keep wg;have B0:=B;have yK:=B.size;replace B:=B.alloc yK (.cells #[.int .i64 d1,.int .i64 d2,.int .i64 d3,.int .i64 d4] 33);replace C:=C.alloc (.cells #[.int .i64 d1,.int .i64 d2,.int .i64 d3,.int .i64 d4] 33);replace Q:=Q.alloc (.cells #[.int .i64 d1,.int .i64 d2,.int .i64 d3,.int .i64 d4] 33);replace U:=U.alloc (.cells #[.int .i64 d1,.int .i64 d2,.int .i64 d3,.int .i64 d4] 33);have V2:=aH.new w7 #[.int .i64 d1,.int .i64 d2,.int .i64 d3,.int .i64 d4] 33;have f_:=C.box.c0;have g_:=C.box.c1;(have ⟨q0,q1,q2⟩:=Q.aK);(have ⟨u0,u1,u2⟩:=U.aK);replace V:=V.alloc (.cells #[.int .i64 d1,.int .i64 d2,.int .i64 d3,.int .i64 d4] 33);(have ⟨v0,v1,v2,v3,_,_,_,_,_⟩:=V.aP);(have ⟨x0,x1,x2,x3,_,_,_,_,_⟩:=V2.aP)) | (go_at_call 111;(with_reducible refine (DG.out _).mono ?_);rintro e w8 ⟨rfl,xB⟩;replace B:=d_ B xB;replace V:=V.keep xB;replace V2:=V2.keep xB;(have ⟨v0,v1,v2,v3,_,_,_,_,_⟩:=V.aP);(have ⟨x0,x1,x2,x3,_,_,_,_,_⟩:=V2.aP)) | (go_at_call 111;(with_reducible refine (DH.out _).mono ?_);rintro e w9 ⟨rfl,wb⟩;replace B:=d_ B wb))
 go_ret2;exact ⟨rfl,B⟩
theorem jB (a b X Y E:Int) (w:World) :
  Calls Tryz.prog 53 #[.agg #[.int .i64 a,.int .i64 b],.agg #[.int .i64 X,.int .i64 Y,.int .i64 E]] w fun e w'=>e=.returned (.tuple #[.agg #[.int .i64 (M.yS (M.eU a b X Y E)),.int .i64 (M.yT (M.eU a b X Y E)),.int .i64 (M.yU (M.eU a b X Y E)),.int .i64 (M.yV (M.eU a b X Y E))],.bool (M.eU a b X Y E).isSome])∧Below w.heap.size w w':=by
 have PT:∀ W,Calls Tryz.prog 55 #[.agg #[.int .i64 a,.int .i64 b],.agg #[.int .i64 X,.int .i64 Y,.int .i64 E]] W fun e w'=>e=.returned (.bool (M.bW a b X Y E))∧Below W.heap.size W w':=fun W=>dL a b X Y E W
 unfold M.eU;obtain ⟨wc,hw3,C,Q,R,B⟩:=eJ w #[.int .i64 a,.int .i64 b] 25 #[.int .i64 X,.int .i64 Y,.int .i64 E] 27 #[.int .i64 0,.int .i64 0,.int .i64 0,.int .i64 0] 33;have f_:=C.box.c0;have g_:=C.box.c1;have ⟨q0,q1,q2⟩:=Q.aK
 cases h0:M.bW a b X Y E with
 | false=>
  simp only [h0,Bool.false_and] at PT ⊢;replace PT:=wH PT;rw [M.j0];go_enter Tryz.func53,Tryz.ntmps53
  go_wp2_with (first | (go_at_call 55;(with_reducible refine (PT.out _).mono ?_);rintro e w4 ⟨rfl,hb4⟩;replace B:=d_ B hb4;replace C:=C.keep hb4;replace Q:=Q.keep hb4;replace R:=R.keep hb4;have f_:=C.box.c0;have g_:=C.box.c1;(have ⟨q0,q1,q2⟩:=Q.aK);(have ⟨r0,r1,r2,r3,z0,z1,z2,z3,rl⟩:=R.aP)))
  exact bodyPost_ret (v:=.tuple #[.agg #[.int .i64 0,.int .i64 0,.int .i64 0,.int .i64 0],.bool false]) (by simp [results,Tryz.results53,go_sem, *]) rfl (⟨rfl,wJ (wJ (wJ (wJ B (by dsimp only;omega) _) (by dsimp only;omega) _) (by dsimp only;omega) _) (by dsimp only;omega) _⟩)
 | true=>
 by_cases hE:E=0
 ·have EH:(E == 0)=true:=by simpa using hE
  simp only [h0,EH,Bool.not_true,Bool.and_false] at PT ⊢;replace PT:=wH PT;rw [M.j0];clear EH;subst hE;go_enter Tryz.func53,Tryz.ntmps53
  go_wp2_with (first | (go_at_call 55;(with_reducible refine (PT.out _).mono ?_);rintro e w4 ⟨rfl,hb4⟩;replace B:=d_ B hb4;replace C:=C.keep hb4;replace Q:=Q.keep hb4;replace R:=R.keep hb4;have f_:=C.box.c0;have g_:=C.box.c1;(have ⟨q0,q1,q2⟩:=Q.aK);(have ⟨r0,r1,r2,r3,z0,z1,z2,z3,rl⟩:=R.aP)))
  exact bodyPost_ret (v:=.tuple #[.agg #[.int .i64 0,.int .i64 0,.int .i64 0,.int .i64 0],.bool false]) (by simp [results,Tryz.results53,go_sem, *]) rfl (⟨rfl,wJ (wJ (wJ (wJ B (by dsimp only;omega) _) (by dsimp only;omega) _) (by dsimp only;omega) _) (by dsimp only;omega) _⟩)
 have EH:(E == 0)=false:=by simpa using hE
 rw [h0] at PT;rw [EH];rw [show (true && !false)=true from rfl,M.fz];obtain ⟨IV,lo1,lo2,lo3,BU⟩:=M.dI h0;obtain ⟨hg,hp⟩:=M.bP h0;obtain ⟨p1,p2,p3,p4,-,-⟩:=M.be (M.ag hg) hp
 have PR:=fun W=>cw a b X Y E W hg p1 p2 p3 p4
 rw [BU] at PR;rw [show M.bL a b X E (M.bN a b X E)=M.cW a b X E from rfl,show M.bH a b X E (M.bN a b X E)=M.cR a b X E from rfl] at PR;generalize ((M.bN a b X E:Nat):Int)=kk at *
 have Dk:0≤M.bk (M.aX a b X E 0)∧M.bk (M.aX a b X E 0)≤14000:=by
  have ho:M.aX a b X E 0=.val X (E*E):=if_neg hE;rw [ho];exact M.gY (M.ei p1 p2 p3 p4 ho)
 have PB:=fun W=>jZ a b X Y E 0 W hg p1 p2 p3 p4 (by omega)
 clear h0 hg hp p1 p2 BU;generalize M.cR a b X E=hi,M.cW a b X E=lo at *;rw [show ((0:Nat):Int)=0 from rfl] at PB;generalize M.isOk (M.aX a b X E 0)=f2,M.isInf (M.aX a b X E 0)=f1,M.bk (M.aX a b X E 0)=bt at *;obtain ⟨hb1,hb2⟩:=Dk;obtain ⟨e1,e2,e3,e4,e5⟩:=M.k8 (lo - bt*4096) (hi - (bt - 1)*4096);rw [e1,e2,e3,e4,e5];clear e1 e2 e3 e4 e5
 have PI:=fun W=>eu (lo - bt*4096) (hi - (bt - 1)*4096) true W
 simp only [Bool.true_and] at PI;generalize M.aQ (lo - bt*4096) (hi - (bt - 1)*4096)=ok,M.pick (M.aQ (lo - bt*4096) (hi - (bt - 1)*4096)) (M.pd (hi - (bt - 1)*4096))=i4,M.pick (M.aQ (lo - bt*4096) (hi - (bt - 1)*4096)) (M.pn (hi - (bt - 1)*4096))=i3,M.pick (M.aQ (lo - bt*4096) (hi - (bt - 1)*4096)) (M.pd (lo - bt*4096))=i2,M.pick (M.aQ (lo - bt*4096) (hi - (bt - 1)*4096)) (M.pn (lo - bt*4096))=i1 at *;replace PT:=wH PT;replace PR:=wH PR;replace PI:=wH PI;replace PB:=wH PB;go_enter Tryz.func53,Tryz.ntmps53
 go_wp2_with (first | (go_at_call 55;(with_reducible refine (PT.out _).mono ?_);rintro e w4 ⟨rfl,hb4⟩;replace B:=d_ B hb4;replace C:=C.keep hb4;replace Q:=Q.keep hb4;replace R:=R.keep hb4;have f_:=C.box.c0;have g_:=C.box.c1;(have ⟨q0,q1,q2⟩:=Q.aK);(have ⟨r0,r1,r2,r3,z0,z1,z2,z3,rl⟩:=R.aP)) | (go_at_call 61;(with_reducible refine (PR.out _).mono ?_);rintro e w7 ⟨rfl,wg⟩;replace B:=d_ B wg;replace C:=C.keep wg;replace Q:=Q.keep wg;replace R:=R.keep wg;have f_:=C.box.c0;have g_:=C.box.c1;(have ⟨q0,q1,q2⟩:=Q.aK);(have ⟨r0,r1,r2,r3,z0,z1,z2,z3,rl⟩:=R.aP);have B0:=B;have yK:=B.size;replace B:=B.alloc yK (.cells #[.int .i64 lo,.int .i64 hi] 74);replace C:=C.alloc (.cells #[.int .i64 lo,.int .i64 hi] 74);replace Q:=Q.alloc (.cells #[.int .i64 lo,.int .i64 hi] 74);replace R:=R.alloc (.cells #[.int .i64 lo,.int .i64 hi] 74);have V:=aH.new w7 #[.int .i64 lo,.int .i64 hi] 74;have f_:=C.box.c0;have g_:=C.box.c1;(have ⟨q0,q1,q2⟩:=Q.aK);(have ⟨r0,r1,r2,r3,z0,z1,z2,z3,rl⟩:=R.aP);(have ⟨v0,v1,_,_,_⟩:=V.box)) | (go_at_call 105;(with_reducible refine (PB.out _).mono ?_);rintro e w6 ⟨rfl,hb6⟩;replace B:=d_ B hb6;replace R:=R.keep hb6;(have ⟨r0,r1,r2,r3,z0,z1,z2,z3,rl⟩:=R.aP);replace V:=V.keep hb6;(have ⟨v0,v1,_,_,_⟩:=V.box)) | (go_at_call 58;(with_reducible refine (PI.out _).mono ?_);rintro e w8 ⟨rfl,xB⟩;replace B:=d_ B xB;replace R:=R.keep xB;(have ⟨r0,r1,r2,r3,z0,z1,z2,z3,rl⟩:=R.aP)))
 exact bodyPost_ret (v:=.tuple #[.agg #[.int .i64 i1,.int .i64 i2,.int .i64 i3,.int .i64 i4],.bool ok]) (by simp [results,Tryz.results53,go_sem, *]) rfl (⟨rfl,wJ (wJ (wJ (wJ B (by dsimp only;omega) _) (by dsimp only;omega) _) (by dsimp only;omega) _) (by dsimp only;omega) _⟩)
theorem jE (a b X Y E:Int) (w:World) :
  Calls Tryz.prog 54 #[.agg #[.int .i64 a,.int .i64 b],.agg #[.int .i64 X,.int .i64 Y,.int .i64 E]] w fun e w'=>e=.returned (.tuple #[.agg #[.int .i64 (M.yS (M.eU a b X Y E)),.int .i64 (M.yT (M.eU a b X Y E)),.int .i64 (M.yU (M.eU a b X Y E)),.int .i64 (M.yV (M.eU a b X Y E))],.bool (M.eU a b X Y E).isSome])∧Below w.heap.size w w':=by
 have PT:∀ W,Calls Tryz.prog 62 #[.agg #[.int .i64 a,.int .i64 b],.agg #[.int .i64 X,.int .i64 Y,.int .i64 E]] W fun e w'=>e=.returned (.bool (M.bW a b X Y E))∧Below W.heap.size W w':=fun W=>cX a b X Y E W
 unfold M.eU;obtain ⟨wc,hw3,C,Q,R,B⟩:=eJ w #[.int .i64 a,.int .i64 b] 25 #[.int .i64 X,.int .i64 Y,.int .i64 E] 27 #[.int .i64 0,.int .i64 0,.int .i64 0,.int .i64 0] 33;have f_:=C.box.c0;have g_:=C.box.c1;have ⟨q0,q1,q2⟩:=Q.aK
 cases h0:M.bW a b X Y E with
 | false=>
  simp only [h0,Bool.false_and] at PT ⊢;replace PT:=wH PT;rw [M.j0];go_enter Tryz.func54,Tryz.ntmps54
  go_wp2_with (first | (go_at_call 62;(with_reducible refine (PT.out _).mono ?_);rintro e w4 ⟨rfl,hb4⟩;replace B:=d_ B hb4;replace C:=C.keep hb4;replace Q:=Q.keep hb4;replace R:=R.keep hb4;have f_:=C.box.c0;have g_:=C.box.c1;(have ⟨q0,q1,q2⟩:=Q.aK);(have ⟨r0,r1,r2,r3,z0,z1,z2,z3,rl⟩:=R.aP)))
  exact bodyPost_ret (v:=.tuple #[.agg #[.int .i64 0,.int .i64 0,.int .i64 0,.int .i64 0],.bool false]) (by simp [results,Tryz.results54,go_sem, *]) rfl (⟨rfl,wJ (wJ (wJ (wJ B (by dsimp only;omega) _) (by dsimp only;omega) _) (by dsimp only;omega) _) (by dsimp only;omega) _⟩)
 | true=>
 by_cases hE:E=0
 ·have EH:(E == 0)=true:=by simpa using hE
  simp only [h0,EH,Bool.not_true,Bool.and_false] at PT ⊢;replace PT:=wH PT;rw [M.j0];clear EH;subst hE;go_enter Tryz.func54,Tryz.ntmps54
  go_wp2_with (first | (go_at_call 62;(with_reducible refine (PT.out _).mono ?_);rintro e w4 ⟨rfl,hb4⟩;replace B:=d_ B hb4;replace C:=C.keep hb4;replace Q:=Q.keep hb4;replace R:=R.keep hb4;have f_:=C.box.c0;have g_:=C.box.c1;(have ⟨q0,q1,q2⟩:=Q.aK);(have ⟨r0,r1,r2,r3,z0,z1,z2,z3,rl⟩:=R.aP)))
  exact bodyPost_ret (v:=.tuple #[.agg #[.int .i64 0,.int .i64 0,.int .i64 0,.int .i64 0],.bool false]) (by simp [results,Tryz.results54,go_sem, *]) rfl (⟨rfl,wJ (wJ (wJ (wJ B (by dsimp only;omega) _) (by dsimp only;omega) _) (by dsimp only;omega) _) (by dsimp only;omega) _⟩)
 have EH:(E == 0)=false:=by simpa using hE
 rw [h0] at PT;rw [EH];rw [show (true && !false)=true from rfl,M.fz];obtain ⟨IV,lo1,lo2,lo3,BU⟩:=M.dI h0;obtain ⟨hg,hp⟩:=M.bP h0;obtain ⟨p1,p2,p3,p4,-,-⟩:=M.be (M.ag hg) hp
 have PR:=fun W=>eN a b X Y E W hg p1 p2 p3 p4
 rw [BU] at PR;simp only [M.bn] at PR;rw [show M.bL a b X E (M.bN a b X E)=M.cW a b X E from rfl,show M.bH a b X E (M.bN a b X E)=M.cR a b X E from rfl] at PR;generalize ((M.bN a b X E:Nat):Int)=kk at *
 have Dk:0≤M.bk (M.aX a b X E 0)∧M.bk (M.aX a b X E 0)≤14000:=by
  have ho:M.aX a b X E 0=.val X (E*E):=if_neg hE;rw [ho];exact M.gY (M.ei p1 p2 p3 p4 ho)
 have Fd:=M.aL (x:=E) (y:=E) (m:=20) (n:=20) (by omega) (by omega) (by omega) (by omega)
 have PX:=fun W=>oK X (E*E) W (by omega) (by omega) (by omega) (by omega)
 have ho:M.aX a b X E 0=.val X (E*E):=if_neg hE;have hsz:=M.ei p1 p2 p3 p4 ho
 have PD:=wH fun (s r:Bool) v v' W i j (h1:aF W i v (Wh.a_ X.natAbs)) (h2:aF W j v' (Wh.a_ (E*E).natAbs)) (hs:s=decide (X<0)) (hr:r=decide (E*E<0))=>(hs ▸ hr ▸ jx X (E*E) v v' W i j h1 h2 (Wh.aY.2 (Wh.aN hsz.1 (by omega))) (Wh.aY.2 (Wh.aN hsz.2 (by omega))) (Nat.le_trans (Wh.fp hsz.1) (by omega)) (Nat.le_trans (Wh.fp hsz.2) (by omega)):Calls Tryz.prog 107 #[.agg #[.bool s,v,.bool r,v']] W fun e w'=>e=.returned (.int .i64 (M.bk (.val X (E*E))))∧Below W.heap.size W w')
 rw [←ho] at PD;clear ho hsz;clear h0 hg hp p1 p2 BU;generalize M.bk (M.aX a b X E 0)=bt,M.cR a b X E=hi,M.cW a b X E=lo at *;obtain ⟨hb1,hb2⟩:=Dk;obtain ⟨e1,e2,e3,e4,e5⟩:=M.k8 (lo - bt*4096) (hi - (bt - 1)*4096);rw [e1,e2,e3,e4,e5];clear e1 e2 e3 e4 e5
 have PI:=fun W=>gp (lo - bt*4096) (hi - (bt - 1)*4096) W (by omega) (by omega) (by omega) (by omega)
 have PE:=fun W=>gn lo hi W (M.bS (by omega) (by omega)) (M.bS (by omega) (by omega))
 generalize M.pd hi=b4,M.pn hi=b3,M.pd lo=b2,M.pn lo=b1,M.aQ (lo - bt*4096) (hi - (bt - 1)*4096)=ok,M.pick (M.aQ (lo - bt*4096) (hi - (bt - 1)*4096)) (M.pd (hi - (bt - 1)*4096))=i4,M.pick (M.aQ (lo - bt*4096) (hi - (bt - 1)*4096)) (M.pn (hi - (bt - 1)*4096))=i3,M.pick (M.aQ (lo - bt*4096) (hi - (bt - 1)*4096)) (M.pd (lo - bt*4096))=i2,M.pick (M.aQ (lo - bt*4096) (hi - (bt - 1)*4096)) (M.pn (lo - bt*4096))=i1 at *;replace PT:=wH PT;replace PR:=wH PR;replace PI:=wH PI;replace PE:=wH PE;replace PX:=wH PX;go_enter Tryz.func54,Tryz.ntmps54
 go_wp2_with (first | (go_at_call 62;(with_reducible refine (PT.out _).mono ?_);rintro e w4 ⟨rfl,hb4⟩;replace B:=d_ B hb4;replace C:=C.keep hb4;replace Q:=Q.keep hb4;replace R:=R.keep hb4;have f_:=C.box.c0;have g_:=C.box.c1;(have ⟨q0,q1,q2⟩:=Q.aK);(have ⟨r0,r1,r2,r3,z0,z1,z2,z3,rl⟩:=R.aP)) | (go_at_call 63;(with_reducible refine (PR.out _).mono ?_);rintro e w7 ⟨rfl,wg⟩;replace B:=d_ B wg;replace Q:=Q.keep wg;replace R:=R.keep wg;(have ⟨q0,q1,q2⟩:=Q.aK);(have ⟨r0,r1,r2,r3,z0,z1,z2,z3,rl⟩:=R.aP);have B0:=B;have yK:=B.size;replace B:=B.alloc yK (.cells #[.int .i64 b1,.int .i64 b2,.int .i64 b3,.int .i64 b4] 33);replace Q:=Q.alloc (.cells #[.int .i64 b1,.int .i64 b2,.int .i64 b3,.int .i64 b4] 33);replace R:=R.alloc (.cells #[.int .i64 b1,.int .i64 b2,.int .i64 b3,.int .i64 b4] 33);have V:=aH.new w7 #[.int .i64 b1,.int .i64 b2,.int .i64 b3,.int .i64 b4] 33;(have ⟨q0,q1,q2⟩:=Q.aK);(have ⟨r0,r1,r2,r3,z0,z1,z2,z3,rl⟩:=R.aP);(have ⟨v0,v1,v2,v3,_,_,_,_,_⟩:=V.aP)) | (go_at_call 113;(with_reducible refine (PX.out _).mono ?_);rintro e EP ⟨vx,vz,rfl,Mx,Mz,wR⟩;(generalize hs1:decide (X<0)=s1 at *);(generalize hs2:decide (E*E<0)=s2 at *);replace B:=d_ B wR;replace R:=R.keep wR;replace V:=V.keep wR;(have ⟨r0,r1,r2,r3,z0,z1,z2,z3,rl⟩:=R.aP);(have ⟨v0,v1,v2,v3,_,_,_,_,_⟩:=V.aP)) | (go_at_call 107;(refine (PD.out _ _ _ _ _ _ _ Mx Mz rfl rfl).mono ?_);rintro e Jv ⟨rfl,GJ⟩;replace B:=d_ B GJ;replace R:=R.keep GJ;replace V:=V.keep GJ;(have ⟨r0,r1,r2,r3,z0,z1,z2,z3,rl⟩:=R.aP);(have ⟨v0,v1,v2,v3,_,_,_,_,_⟩:=V.aP)) | (go_at_call 101;(with_reducible refine (PE.out _).mono ?_);rintro e w8 ⟨rfl,xB⟩;replace B:=d_ B xB;replace R:=R.keep xB;(have ⟨r0,r1,r2,r3,z0,z1,z2,z3,rl⟩:=R.aP)) | (go_at_call 102;(with_reducible refine (PI.out _).mono ?_);rintro e w9 ⟨rfl,wb⟩;replace B:=d_ B wb;replace R:=R.keep wb;(have ⟨r0,r1,r2,r3,z0,z1,z2,z3,rl⟩:=R.aP)))
 exact bodyPost_ret (v:=.tuple #[.agg #[.int .i64 i1,.int .i64 i2,.int .i64 i3,.int .i64 i4],.bool ok]) (by simp [results,Tryz.results54,go_sem, *]) rfl (⟨rfl,wJ (wJ (wJ (wJ B (by dsimp only;omega) _) (by dsimp only;omega) _) (by dsimp only;omega) _) (by dsimp only;omega) _⟩)
end
end Go.Proofs.YtggekfbfechonaaGreat
