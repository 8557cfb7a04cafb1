/-
  Joined texts: contracts and plain lemmas.
-/
import Derived.Test.YtggekfbfechonaaGreatU1
import Derived.Test.YtggekfbfechonaaGreatU15
import Derived.Deep.DeepCutAuto
import Derived.Test.YtggekfbfechonaaGreatU2
import Derived.Test.YtggekfbfechonaaGreatU13
set_option linter.unusedSimpArgs false
set_option linter.unusedVariables false
set_option maxRecDepth 100000
set_option maxHeartbeats 8000000
namespace Go.Proofs.YtggekfbfechonaaGreat
section
open Go.RowKit
theorem aH.aW {W W':World} {g r:Nat} {T:TypeId} {xs:Array Value} (h:aH W g T xs) (hg:W.grownBy W' (some r)) (hn:g≠r):aH W' g T xs:=(hg.block g h.lt (by simpa using hn)).trans h
theorem St.up {w W:World} {g B n K K':Nat} {v:Value} (h:St w W g B v n K) (hK:K≤K'):St w W g B v n K':=⟨h.cur.mono hK,h.gr,h.lt⟩
theorem St.aV {w W:World} {g B n K c o:Nat} {v:Value} (h:St w W g B v n K) (hc:w.heap.size≤c) (hg:g≠c) (hB:B≤c) (x:Value):St w (W.setCell ⟨c,o,none⟩ x) g B v n K:=
 ⟨h.cur.keepR (Gr.set (dB W (some c)) o x) hg hB,Gr.gm h.gr hc _,h.lt⟩
theorem aH.tt {W:World} {g:Nat} {T:TypeId} {u v x:Value} (h:aH W g T #[u,v,x]) (y1 y2 y3:Value):aH (((W.setCell ⟨g,0,none⟩ y1).setCell ⟨g,1,none⟩ y2).setCell ⟨g,2,none⟩ y3) g T #[y1,y2,y3]:=((h.set 0 y1).set 1 y2).set 2 y3
def AS (wr:World) (g B:Nat) (v:Value) (n K:Nat) (W:World):Prop:=cK W g B v n K∧wr.grownBy W (some g)
theorem AS.keep {wr W W':World} {g B n K:Nat} {v:Value} (h:AS wr g B v n K W) (hb:Below W.heap.size W W'):AS wr g B v n K W':=⟨h.1.keep hb,cN h.2 (br hb _)⟩
theorem AS.call {wr W W':World} {g B n K K':Nat} {v:Value} (h:AS wr g B v n K W) (hc:cK W' g B v n K') (hg:W.grownBy W' (some g)):AS wr g B v n K' W':=⟨hc,cN h.2 hg⟩
theorem AS.put {wr W:World} {g B n K h:Nat} {v:Value} (q:AS wr g B v n K W) (hg:g≠h) (hB:B≤h) (hw:wr.heap.size≤h) (o:Nat) (x:Value):AS wr g B v n K (W.setCell ⟨h,o,none⟩ x):=
 ⟨q.1.keepR (Gr.set (dB W (some h)) o x) hg hB,Gr.gm q.2 hw _⟩
theorem AS.start {w wr:World} {g B n K:Nat} {v:Value} (st:St w wr g B v n K):AS wr g B v n K wr.drew:=⟨st.drew.cur,gC (dB wr _) 1⟩
theorem aH.ei {W:World} {k i:Nat} {x:Value} {L:List (Nat × TypeId × Array Value)} (h:∀ y ∈ L,aH W y.1 y.2.1 y.2.2) (hk:∀ y ∈ L,k<y.1):∀ y ∈ L,aH (W.setCell ⟨k,i,none⟩ x) y.1 y.2.1 y.2.2:=fun y hy=>(h y hy).other (by have:=hk y hy;omega) x
structure zA (w:World) (g B:Nat) (v:Value) (n K r1 r2:Nat) (L:List (Nat × TypeId × Array Value)) (T1 T2:TypeId) (xs ys:Array Value) (W:World):Prop where
 rd:AS w g B v n K W
 hV:∀ x ∈ L,aH W x.1 x.2.1 x.2.2
 R:aH W r1 T1 xs
 Q:aH W r2 T2 ys
 hn:w.heap.size≤r1∧r1<r2∧g≠r1∧g≠r2∧B≤r1
 hL:∀ x ∈ L,r2<x.1
theorem zA.drew {w W:World} {g B n K r1 r2:Nat} {v:Value} {L:List (Nat × TypeId × Array Value)} {T1 T2:TypeId} {xs ys:Array Value} (h:zA w g B v n K r1 r2 L T1 T2 xs ys W):zA w g B v n K r1 r2 L T1 T2 xs ys W.drew:=
 ⟨h.rd.keep (wP _ _).drew,h.hV,h.R,h.Q,h.hn,h.hL⟩
theorem zA.kV {w W:World} {g B n K r1 r2:Nat} {v:Value} {L:List (Nat × TypeId × Array Value)} {T1 T2:TypeId} {u1 u2:Value} {ys:Array Value} (h:zA w g B v n K r1 r2 L T1 T2 #[u1,u2] ys W) (x y:Value):zA w g B v n K r1 r2 L T1 T2 #[x,y] ys ((W.setCell ⟨r1,0,none⟩ x).setCell ⟨r1,1,none⟩ y):=by
 have hn:=h.hn
 have hL:∀ y ∈ L,r1<y.1:=fun y hy=>Nat.lt_trans hn.2.1 (h.hL y hy)
 exact ⟨(h.rd.put (by omega) (by omega) (by omega) 0 _).put (by omega) (by omega) (by omega) 1 _,aH.ei (aH.ei h.hV hL) hL,h.R.set2 _ _,(h.Q.other (by omega) _).other (by omega) _,hn,h.hL⟩
theorem zA.jT {w W:World} {g B n K r1 r2:Nat} {v:Value} {L:List (Nat × TypeId × Array Value)} {T1 T2:TypeId} {u1 u2 u3:Value} {xs:Array Value} (h:zA w g B v n K r1 r2 L T1 T2 xs #[u1,u2,u3] W) (x y z:Value):zA w g B v n K r1 r2 L T1 T2 xs #[x,y,z] (((W.setCell ⟨r2,0,none⟩ x).setCell ⟨r2,1,none⟩ y).setCell ⟨r2,2,none⟩ z):=by
 have hn:=h.hn;have hL:=h.hL;exact ⟨((h.rd.put (by omega) (by omega) (by omega) 0 _).put (by omega) (by omega) (by omega) 1 _).put (by omega) (by omega) (by omega) 2 _,aH.ei (aH.ei (aH.ei h.hV hL) hL) hL,((h.R.other (by omega) _).other (by omega) _).other (by omega) _,h.Q.tt _ _ _,hn,hL⟩
def tw (w:World) (g B:Nat) (v:Value) (n K:Nat) (e:Ending) (w':World):Prop:=
 ∃ a b X Y E:Int,e=.returned (.tuple #[.agg #[.int .i64 a,.int .i64 b],.agg #[.int .i64 X,.int .i64 Y,.int .i64 E]])∧Hid (M.good a b=true∧M.bB a b X Y E=true)∧cK w' g B v n K∧w.grownBy w' (some g)
def ot (w:World) (g B:Nat) (v:Value) (n K:Nat) (e:Ending) (w':World):Prop:=
 ∃ a b X Y E:Int,e=.returned (.tuple #[.agg #[.int .i64 a,.int .i64 b],.agg #[.int .i64 X,.int .i64 Y,.int .i64 E]])∧cK w' g B v n K∧w.grownBy w' (some g)
theorem b7.keepW {w w':World} {B n:Nat} {v:Value} (h:b7 w B v n) (hb:Below B w w'):b7 w' B v n:=by
 obtain ⟨A,cap,e,hn,hx⟩:=h;refine ⟨A,cap,e,hn,fun j hj=>?_⟩;obtain ⟨gb,ob,b,e,hgb,hc,h1,h2⟩:=hx j hj;exact ⟨gb,ob,b,e,hgb,(hb.cell (p:=⟨gb,ob+j,none⟩) hgb).trans hc,h1,h2⟩
theorem b7.nu {w:World} {B B' n:Nat} {v:Value} (h:b7 w B v n) (hB:B≤B'):b7 w B' v n:=by
 obtain ⟨A,cap,e,hn,hx⟩:=h;refine ⟨A,cap,e,hn,fun j hj=>?_⟩;obtain ⟨gb,ob,b,e,hgb,hc,h1,h2⟩:=hx j hj;exact ⟨gb,ob,b,e,by omega,hc,h1,h2⟩
theorem St.ub {w W:World} {v:Value} {n:Nat} (h:b7 w w.heap.size v n) (hb:Below w.heap.size w W) (T:TypeId) :
  St w (W.alloc (.cells #[v,.int .i64 0,.int .u64 0] T)) W.heap.size w.heap.size v n 0:=by
 have hb2:Below w.heap.size w (W.alloc (.cells #[v,.int .i64 0,.int .u64 0] T)):=hb.alloc hb.size _;refine ⟨⟨0,wQ _,⟨h.keepW hb2,hb.size,?_,?_,⟨0,?_⟩,by simp [go_sem],by simp [go_sem],by rw [wN];omega⟩⟩,br hb2 _,hb.size⟩
 all_goals (rw [World.cell?_alloc_at _ _ _ _ rfl];rfl)
theorem St.qQ {w W:World} {g B n K:Nat} {v:Value} (h:St w W g B v n K) (hg:w.heap.size≤g):Below w.heap.size w W:=b8 h.gr (wQ _) fun k hk=>by cases hk;exact hg
theorem AS.below {w W:World} {g B n K:Nat} {v:Value} (h:AS w g B v n K W) (hg:w.heap.size≤g):Below w.heap.size w W:=b8 h.2 (wQ _) fun k hk=>by cases hk;exact hg
theorem M.qi {x y a b:Int} (h1:-200≤x) (h2:x≤200) (hb:b=y*y - x*x*x - a*x):M.bB a b x y 1=true:=
 M.rR (by omega) (by omega) (by rw [hb];unfold M.cv;grind)
theorem pU (g B:Nat) (v:Value) (n K:Nat) (w:World) (h:cK w g B v n K) (hk:K≤700000000) :
  Calls Tryz.prog 152 #[.pointer (some ⟨g,0,none⟩)] w (tw w g B v n (K+20)):=by
 have hl:=h.size;obtain ⟨wc,hw3,R,Q,BB⟩:=dL w #[.int .i64 0,.int .i64 0] 25 #[.int .i64 0,.int .i64 0,.int .i64 0] 27;have st:=(St.start h).keep BB;have hB:=st.lt;have hwc:=BB.size
 have nR:w.heap.size≠g:=by omega
 have nQ:w.heap.size+1≠g:=by omega
 clear h BB;go_enter Tryz.func152,Tryz.ntmps152
 go_wp2_with fail
 refine (ci g B v n _ 6 _ st.cur (by omega) (by omega) (by omega)).mono ?_;rintro e BQ ⟨x,rfl,⟨Hl,Hk⟩,wU,j_⟩;replace st:=st.call wU j_;have HN:=j_.size;replace R:=R.aW j_ nR;replace Q:=Q.aW j_ nQ;clear wU j_
 by_cases x0:x=0
 ·subst x0
  have L1:=(aH.new BQ #[.int .i64 0,.int .i64 4,.int .i64 0,.int .i64 1,.int .i64 4,.int .i64 0,.int .i64 (-1),.int .i64 0,.int .i64 (-43),.int .i64 166,.int .i64 0,.int .i64 (-432)] 25).alloc (.cells #[.int .i64 0,.int .i64 2,.int .i64 1,.int .i64 2,.int .i64 3,.int .i64 1,.int .i64 2,.int .i64 4,.int .i64 1,.int .i64 1,.int .i64 0,.int .i64 1,.int .i64 3,.int .i64 8,.int .i64 1,.int .i64 12,.int .i64 36,.int .i64 1] 27);have L2:=aH.new (BQ.alloc (.cells #[.int .i64 0,.int .i64 4,.int .i64 0,.int .i64 1,.int .i64 4,.int .i64 0,.int .i64 (-1),.int .i64 0,.int .i64 (-43),.int .i64 166,.int .i64 0,.int .i64 (-432)] 25)) #[.int .i64 0,.int .i64 2,.int .i64 1,.int .i64 2,.int .i64 3,.int .i64 1,.int .i64 2,.int .i64 4,.int .i64 1,.int .i64 1,.int .i64 0,.int .i64 1,.int .i64 3,.int .i64 8,.int .i64 1,.int .i64 12,.int .i64 36,.int .i64 1] 27;rw [wN] at L2;have zx:=st.size;have zy:=st.le;have zq:=Q.lt;replace st:=st.alloc (.cells #[.int .i64 0,.int .i64 4,.int .i64 0,.int .i64 1,.int .i64 4,.int .i64 0,.int .i64 (-1),.int .i64 0,.int .i64 (-43),.int .i64 166,.int .i64 0,.int .i64 (-432)] 25);replace R:=R.alloc (.cells #[.int .i64 0,.int .i64 4,.int .i64 0,.int .i64 1,.int .i64 4,.int .i64 0,.int .i64 (-1),.int .i64 0,.int .i64 (-43),.int .i64 166,.int .i64 0,.int .i64 (-432)] 25);replace Q:=Q.alloc (.cells #[.int .i64 0,.int .i64 4,.int .i64 0,.int .i64 1,.int .i64 4,.int .i64 0,.int .i64 (-1),.int .i64 0,.int .i64 (-43),.int .i64 166,.int .i64 0,.int .i64 (-432)] 25);replace st:=st.alloc (.cells #[.int .i64 0,.int .i64 2,.int .i64 1,.int .i64 2,.int .i64 3,.int .i64 1,.int .i64 2,.int .i64 4,.int .i64 1,.int .i64 1,.int .i64 0,.int .i64 1,.int .i64 3,.int .i64 8,.int .i64 1,.int .i64 12,.int .i64 36,.int .i64 1] 27);replace R:=R.alloc (.cells #[.int .i64 0,.int .i64 2,.int .i64 1,.int .i64 2,.int .i64 3,.int .i64 1,.int .i64 2,.int .i64 4,.int .i64 1,.int .i64 1,.int .i64 0,.int .i64 1,.int .i64 3,.int .i64 8,.int .i64 1,.int .i64 12,.int .i64 36,.int .i64 1] 27);replace Q:=Q.alloc (.cells #[.int .i64 0,.int .i64 2,.int .i64 1,.int .i64 2,.int .i64 3,.int .i64 1,.int .i64 2,.int .i64 4,.int .i64 1,.int .i64 1,.int .i64 0,.int .i64 1,.int .i64 3,.int .i64 8,.int .i64 1,.int .i64 12,.int .i64 36,.int .i64 1] 27)
  have n1:BQ.heap.size≠g:=by omega
  have n2:BQ.heap.size+1≠g:=by omega
  go_wp2_with fail
  refine (ci g B v n _ 6 _ st.cur (by omega) (by omega) (by omega)).mono ?_;rintro e w_k ⟨k,rfl,⟨k_lo,k_hi⟩,wU,j_⟩;replace st:=st.call wU j_;have sz_k:=j_.size;replace R:=R.aW j_ nR;replace Q:=Q.aW j_ nQ;replace L1:=L1.aW j_ n1;replace L2:=L2.aW j_ n2;clear wU j_;generalize BQ.heap.size=G at *
  obtain ⟨j,rfl⟩:∃ j:Nat,k=j:=⟨k.toNat,by omega⟩
  obtain ⟨a,b,X,Y,q0,q1,q2,q3,q4,hp⟩:∃ a b X Y:Int,(#[.int .i64 0,.int .i64 4,.int .i64 0,.int .i64 1,.int .i64 4,.int .i64 0,.int .i64 (-1),.int .i64 0,.int .i64 (-43),.int .i64 166,.int .i64 0,.int .i64 (-432)]:Array Value)[j*2]?=some (.int .i64 a)∧(#[.int .i64 0,.int .i64 4,.int .i64 0,.int .i64 1,.int .i64 4,.int .i64 0,.int .i64 (-1),.int .i64 0,.int .i64 (-43),.int .i64 166,.int .i64 0,.int .i64 (-432)]:Array Value)[j*2+1]?=some (.int .i64 b)∧(#[.int .i64 0,.int .i64 2,.int .i64 1,.int .i64 2,.int .i64 3,.int .i64 1,.int .i64 2,.int .i64 4,.int .i64 1,.int .i64 1,.int .i64 0,.int .i64 1,.int .i64 3,.int .i64 8,.int .i64 1,.int .i64 12,.int .i64 36,.int .i64 1]:Array Value)[j*3]?=some (.int .i64 X)∧(#[.int .i64 0,.int .i64 2,.int .i64 1,.int .i64 2,.int .i64 3,.int .i64 1,.int .i64 2,.int .i64 4,.int .i64 1,.int .i64 1,.int .i64 0,.int .i64 1,.int .i64 3,.int .i64 8,.int .i64 1,.int .i64 12,.int .i64 36,.int .i64 1]:Array Value)[j*3+1]?=some (.int .i64 Y)∧(#[.int .i64 0,.int .i64 2,.int .i64 1,.int .i64 2,.int .i64 3,.int .i64 1,.int .i64 2,.int .i64 4,.int .i64 1,.int .i64 1,.int .i64 0,.int .i64 1,.int .i64 3,.int .i64 8,.int .i64 1,.int .i64 12,.int .i64 36,.int .i64 1]:Array Value)[j*3+2]?=some (.int .i64 1)∧Hid (M.good a b=true∧M.bB a b X Y 1=true):=by
   have hj:j<6:=by omega
   clear st R Q
   match j,hj with
   | 0,_=>exact ⟨0,4,0,2,rfl,rfl,rfl,rfl,rfl,wM (by decide)⟩
   | 1,_=>exact ⟨0,1,2,3,rfl,rfl,rfl,rfl,rfl,wM (by decide)⟩
   | 2,_=>exact ⟨4,0,2,4,rfl,rfl,rfl,rfl,rfl,wM (by decide)⟩
   | 3,_=>exact ⟨(-1),0,1,0,rfl,rfl,rfl,rfl,rfl,wM (by decide)⟩
   | 4,_=>exact ⟨(-43),166,3,8,rfl,rfl,rfl,rfl,rfl,wM (by decide)⟩
   | 5,_=>exact ⟨0,(-432),12,36,rfl,rfl,rfl,rfl,rfl,wM (by decide)⟩
  generalize (#[.int .i64 0,.int .i64 4,.int .i64 0,.int .i64 1,.int .i64 4,.int .i64 0,.int .i64 (-1),.int .i64 0,.int .i64 (-43),.int .i64 166,.int .i64 0,.int .i64 (-432)]:Array Value)=xs1 at *;generalize (#[.int .i64 0,.int .i64 2,.int .i64 1,.int .i64 2,.int .i64 3,.int .i64 1,.int .i64 2,.int .i64 4,.int .i64 1,.int .i64 1,.int .i64 0,.int .i64 1,.int .i64 3,.int .i64 8,.int .i64 1,.int .i64 12,.int .i64 36,.int .i64 1]:Array Value)=xs2 at *
  go_upto_region 6 with fail
  have TW:zA w g B v n _ w.heap.size (w.heap.size+1) [(G,25,xs1),(G+1,27,xs2)] 25 27 _ _ _:=⟨⟨st.cur,st.gr⟩,fun x hx=>(by rcases List.mem_cons.1 hx with rfl | hx;exact L1;rcases List.mem_cons.1 hx with rfl | hx;exact L2;cases hx),R,Q,⟨wQ _,by omega,by omega,by omega,by omega⟩,fun x hx=>(by rcases List.mem_cons.1 hx with rfl | hx;(show w.heap.size+1<G;omega);rcases List.mem_cons.1 hx with rfl | hx;(show w.heap.size+1<G+1;omega);cases hx)⟩
  clear st R Q L1 L2;refine Rg.gM (fun l W=>zA w g B v n (K+2+2) w.heap.size (w.heap.size+1) [(G,25,xs1),(G+1,27,xs2)] 25 27 (bif l 8 then #[.int .i64 a,.int .i64 b] else #[.int .i64 0,.int .i64 0]) (bif l 9 then #[.int .i64 X,.int .i64 Y,.int .i64 1] else #[.int .i64 0,.int .i64 0,.int .i64 0]) W) (fun _ _ _=>True) (fun _ _=>True) [8,9] [.slice (some ⟨G,0,none⟩) 6 6,.int .i64 (j:Int),.pointer (some ⟨G,j*2,none⟩),.agg #[.int .i64 a,.int .i64 b],.slice (some ⟨G+1,0,none⟩) 6 6,.int .i64 (j:Int),.pointer (some ⟨G+1,j*3,none⟩),.agg #[.int .i64 X,.int .i64 Y,.int .i64 1],undef,undef] (by kernel_rfl) (by kernel_rfl) (by decide) (fun l l2 W h q=>by rw [←h 8 (by decide),←h 9 (by decide)];exact q) (fun _ _ _ _ _ _=>trivial) TW.drew ⟨?_,?_,?_,?_,?_,?_,?_,?_,?_,?_,trivial⟩ ?_
  ·unfold Rg.aj
   intro zZ w_ l_ wV wu xY xQ xl xZ wU hr;refine ⟨rfl,?_⟩;rw [if_neg (by decide)];have e4:zZ.tmps[4]?=some (.slice (some ⟨G,0,none⟩) 6 6):=hr 4 (by decide)
   go_simp
  ·unfold Rg.aj
   intro zZ w_ l_ wV wu xY xQ xl xZ wU hr;refine ⟨rfl,?_⟩;rw [if_neg (by decide)];have e6:zZ.tmps[6]?=some (.int .i64 (j:Int)):=hr 6 (by decide)
   go_simp
  ·unfold Rg.aj
   intro zZ w_ l_ wV wu xY xQ xl xZ wU hr;refine ⟨rfl,?_⟩;rw [if_neg (by decide)];have e33:zZ.tmps[33]?=some (.slice (some ⟨G,0,none⟩) 6 6):=hr 33 (by decide);have e34:zZ.tmps[34]?=some (.int .i64 (j:Int)):=hr 34 (by decide)
   have Fu:(j:Int)<6:=by omega
   have Gi:j<6:=by omega
   (first | (go_simp;done) | (go_simp;exact Rg.wr (by omega) (by omega)) | (go_simp;omega) | (go_simp;rfl) | (go_simp;exact ⟨rfl,rfl⟩))
  ·unfold Rg.aj
   intro zZ w_ l_ wV wu xY xQ xl xZ wU hr;refine ⟨rfl,?_⟩;rw [if_neg (by decide)];have e35:zZ.tmps[35]?=some (.pointer (some ⟨G,j*2,none⟩)):=hr 35 (by decide);have wt:aH w_ G 25 xs1:=wu.hV (G,25,xs1) (by simp);have k0:=(wt.cell (j*2)).trans q0;have k1:=(wt.cell (j*2+1)).trans q1
   (first | (go_simp;done) | (go_simp;exact Rg.wr (by omega) (by omega)) | (go_simp;omega) | (go_simp;rfl) | (go_simp;exact ⟨rfl,rfl⟩))
  ·unfold Rg.aj
   intro zZ w_ l_ wV wu xY xQ xl xZ wU hr;refine ⟨rfl,?_⟩;rw [if_neg (by decide)];have e5:zZ.tmps[5]?=some (.slice (some ⟨G+1,0,none⟩) 6 6):=hr 5 (by decide)
   go_simp
  ·unfold Rg.aj
   intro zZ w_ l_ wV wu xY xQ xl xZ wU hr;refine ⟨rfl,?_⟩;rw [if_neg (by decide)];have e6:zZ.tmps[6]?=some (.int .i64 (j:Int)):=hr 6 (by decide)
   go_simp
  ·unfold Rg.aj
   intro zZ w_ l_ wV wu xY xQ xl xZ wU hr;refine ⟨rfl,?_⟩;rw [if_neg (by decide)];have e37:zZ.tmps[37]?=some (.slice (some ⟨G+1,0,none⟩) 6 6):=hr 37 (by decide);have e38:zZ.tmps[38]?=some (.int .i64 (j:Int)):=hr 38 (by decide)
   have Fu:(j:Int)<6:=by omega
   have Gi:j<6:=by omega
   (first | (go_simp;done) | (go_simp;exact Rg.wr (by omega) (by omega)) | (go_simp;omega) | (go_simp;rfl) | (go_simp;exact ⟨rfl,rfl⟩))
  ·unfold Rg.aj
   intro zZ w_ l_ wV wu xY xQ xl xZ wU hr;refine ⟨rfl,?_⟩;rw [if_neg (by decide)];have e39:zZ.tmps[39]?=some (.pointer (some ⟨G+1,j*3,none⟩)):=hr 39 (by decide);have wt:aH w_ (G+1) 27 xs2:=wu.hV (G+1,27,xs2) (by simp);have k0:=(wt.cell (j*3)).trans q2;have k1:=(wt.cell (j*3+1)).trans q3;have k2:=(wt.cell (j*3+2)).trans q4
   (first | (go_simp;done) | (go_simp;exact Rg.wr (by omega) (by omega)) | (go_simp;omega) | (go_simp;rfl) | (go_simp;exact ⟨rfl,rfl⟩))
  ·unfold Rg.aj
   intro zZ w_ l_ wV wu xY xQ xl xZ wU hr;have e2:zZ.tmps[2]?=some (.pointer (some ⟨w.heap.size,0,none⟩)):=hr 2 (by decide);have e36:zZ.tmps[36]?=some (.agg #[.int .i64 a,.int .i64 b]):=hr 36 (by decide);refine ⟨rfl,?_⟩;rw [if_pos (by decide)];have q_:=wu;simp only [xQ,cond_false] at q_;have ws:=And.intro (q_.kV (.int .i64 a) (.int .i64 b)) (And.intro True.intro True.intro)
   skip
   have ⟨AV,AW,AX,AY,_⟩:=q_.R.box;unfold Oper.wp
   go_simp
   all_goals first | exact ws | exact ws.1 | exact ⟨undef,ws⟩ | exact ⟨_,rfl,ws⟩
  ·unfold Rg.aj
   intro zZ w_ l_ wV wu xY xQ xl xZ wU hr;have e3:zZ.tmps[3]?=some (.pointer (some ⟨w.heap.size+1,0,none⟩)):=hr 3 (by decide);have e40:zZ.tmps[40]?=some (.agg #[.int .i64 X,.int .i64 Y,.int .i64 1]):=hr 40 (by decide);refine ⟨rfl,?_⟩;rw [if_pos (by decide)];have q_:=wu;simp only [xQ,cond_false] at q_;have ws:=And.intro (q_.jT (.int .i64 X) (.int .i64 Y) (.int .i64 1)) (And.intro True.intro True.intro);have ⟨AV,AW,Ej,AX,AY,Di⟩:=q_.Q.cG;unfold Oper.wp
   go_simp
   all_goals first | exact ws | exact ws.1 | exact ⟨undef,ws⟩ | exact ⟨_,rfl,ws⟩
  intro vals wz wu hF hv;simp only [Rg.bE,Rg.fill,Act.put,Nat.reduceAdd];clear hv hF;simp only [cond_true] at wu;obtain ⟨⟨wU,j_⟩,-,R,Q,-,-⟩:=wu;have ⟨AO,AP,o_,p_,AQ⟩:=R.box;have ⟨Bi,Bj,Bk,yt,yu,yv⟩:=Q.cG;have Bl:=Q.lt;go_wp2;exact bodyPost_ret (v:=.tuple #[.agg #[.int .i64 a,.int .i64 b],.agg #[.int .i64 X,.int .i64 Y,.int .i64 1]]) (by simp [results,Tryz.results152,go_sem, *]) rfl (⟨a,b,X,Y,1,rfl,hp,wU.mono (by omega),j_⟩)
 by_cases x1:x=1
 ·subst x1
  have ⟨AO,AP,o_,p_,AQ⟩:=R.box;have ⟨Bi,Bj,Bk,yt,yu,yv⟩:=Q.cG;have Bl:=Q.lt;go_wp2;exact bodyPost_ret (v:=.tuple #[.agg #[.int .i64 (-16),.int .i64 16],.agg #[.int .i64 0,.int .i64 4,.int .i64 1]]) (by simp [results,Tryz.results152,go_sem, *]) rfl (⟨(-16),16,0,4,1,rfl,wM (by decide),(((((st.aV (c:=w.heap.size) (o:=0) (by omega) (by omega) (by omega) (.int .i64 (-16))).aV (c:=w.heap.size) (o:=1) (by omega) (by omega) (by omega) (.int .i64 16)).aV (c:=w.heap.size+1) (o:=0) (by omega) (by omega) (by omega) (.int .i64 0)).aV (c:=w.heap.size+1) (o:=1) (by omega) (by omega) (by omega) (.int .i64 4)).aV (c:=w.heap.size+1) (o:=2) (by omega) (by omega) (by omega) (.int .i64 1)).cur.mono (by omega),(((((st.aV (c:=w.heap.size) (o:=0) (by omega) (by omega) (by omega) (.int .i64 (-16))).aV (c:=w.heap.size) (o:=1) (by omega) (by omega) (by omega) (.int .i64 16)).aV (c:=w.heap.size+1) (o:=0) (by omega) (by omega) (by omega) (.int .i64 0)).aV (c:=w.heap.size+1) (o:=1) (by omega) (by omega) (by omega) (.int .i64 4)).aV (c:=w.heap.size+1) (o:=2) (by omega) (by omega) (by omega) (.int .i64 1)).gr⟩)
 by_cases x2:x=2
 ·subst x2
  have ⟨AO,AP,o_,p_,AQ⟩:=R.box;have ⟨Bi,Bj,Bk,yt,yu,yv⟩:=Q.cG;have Bl:=Q.lt;go_wp2;exact bodyPost_ret (v:=.tuple #[.agg #[.int .i64 (-25),.int .i64 0],.agg #[.int .i64 (-4),.int .i64 6,.int .i64 1]]) (by simp [results,Tryz.results152,go_sem, *]) rfl (⟨(-25),0,(-4),6,1,rfl,wM (by decide),(((((st.aV (c:=w.heap.size) (o:=0) (by omega) (by omega) (by omega) (.int .i64 (-25))).aV (c:=w.heap.size) (o:=1) (by omega) (by omega) (by omega) (.int .i64 0)).aV (c:=w.heap.size+1) (o:=0) (by omega) (by omega) (by omega) (.int .i64 (-4))).aV (c:=w.heap.size+1) (o:=1) (by omega) (by omega) (by omega) (.int .i64 6)).aV (c:=w.heap.size+1) (o:=2) (by omega) (by omega) (by omega) (.int .i64 1)).cur.mono (by omega),(((((st.aV (c:=w.heap.size) (o:=0) (by omega) (by omega) (by omega) (.int .i64 (-25))).aV (c:=w.heap.size) (o:=1) (by omega) (by omega) (by omega) (.int .i64 0)).aV (c:=w.heap.size+1) (o:=0) (by omega) (by omega) (by omega) (.int .i64 (-4))).aV (c:=w.heap.size+1) (o:=1) (by omega) (by omega) (by omega) (.int .i64 6)).aV (c:=w.heap.size+1) (o:=2) (by omega) (by omega) (by omega) (.int .i64 1)).gr⟩)
 have b0:(x == 0)=false:=by simpa using x0
 have b1:(x == 1)=false:=by simpa using x1
 have b2:(x == 2)=false:=by simpa using x2
 go_wp2_with fail
 refine (ci g B v n _ 21 _ st.cur (by omega) (by omega) (by omega)).mono ?_;rintro e MZ ⟨x3,rfl,⟨Hj,Hi⟩,wU,j_⟩;replace st:=st.call wU j_;have HQ:=j_.size;replace R:=R.aW j_ nR;replace Q:=Q.aW j_ nQ;clear wU j_
 go_wp2_with fail
 refine (ci g B v n _ 31 _ st.cur (by omega) (by omega) (by omega)).mono ?_;rintro e w_y3 ⟨y3,rfl,⟨y3_lo,y3_hi⟩,wU,j_⟩;replace st:=st.call wU j_;have sz_y3:=j_.size;replace R:=R.aW j_ nR;replace Q:=Q.aW j_ nQ;clear wU j_
 go_wp2_with fail
 refine (ci g B v n _ 31 _ st.cur (by omega) (by omega) (by omega)).mono ?_;rintro e Fo ⟨a3,rfl,⟨a3_lo,a3_hi⟩,wU,j_⟩;replace st:=st.call wU j_;have sz_a3:=j_.size;replace R:=R.aW j_ nR;replace Q:=Q.aW j_ nQ;clear wU j_
 go_upto_region 13 with fail
 have hx1:-10≤x3 - 10:=by omega
 have hx2:x3 - 10≤10:=by omega
 have hy1:-15≤y3 - 15:=by omega
 have hy2:y3 - 15≤15:=by omega
 have ha1:-15≤a3 - 15:=by omega
 have ha2:a3 - 15≤15:=by omega
 clear x0 x1 x2 b0 b1 b2;generalize a3 - 15=a,y3 - 15=Y,x3 - 10=X at *;have m1:=M.aK (x:=Y) (y:=Y) (m:=15) (n:=15) (by omega) (by omega) (by omega) (by omega);have m2:=M.aK (x:=X) (y:=X) (m:=10) (n:=10) (by omega) (by omega) (by omega) (by omega);have m3:=M.aK (x:=X*X) (y:=X) (m:=100) (n:=10) (by omega) (by omega) (by omega) (by omega);have m4:=M.aK (x:=a) (y:=X) (m:=15) (n:=10) (by omega) (by omega) (by omega) (by omega)
 have hpt:∀ b,b=Y*Y - X*X*X - a*X→M.bB a b X Y 1=true:=fun b hb=>M.qi (by omega) (by omega) hb
 replace hpt:=wM hpt;have E:=aH.new Fo #[.int .i64 a,.int .i64 (Y*Y - X*X*X - a*X)] 25;have zx:=st.size;have zy:=st.le;have zq:=Q.lt;replace st:=st.alloc (.cells #[.int .i64 a,.int .i64 (Y*Y - X*X*X - a*X)] 25);replace R:=R.alloc (.cells #[.int .i64 a,.int .i64 (Y*Y - X*X*X - a*X)] 25);replace Q:=Q.alloc (.cells #[.int .i64 a,.int .i64 (Y*Y - X*X*X - a*X)] 25)
 have nE:Fo.heap.size≠g:=by omega
 have HG:=fun w=>dq a (Y*Y - X*X*X - a*X) w
 replace hpt:=wM (hpt.out _ rfl);have ⟨CG,CH,zD,zH,CI⟩:=E.box
 go_wp2_with fail
 generalize Y*Y - X*X*X - a*X=b,Fo.heap.size=G at *;clear m1 m2 m3 m4 hx1 hx2 hy1 hy2 ha1 ha2
 cases hg:M.good a b <;> rw [hg] at HG <;> replace HG:=wM HG <;> replace hg:=wM hg
 all_goals
  refine (HG.out _).mono ?_;rintro e w9 ⟨rfl,xA⟩;clear CG CH zD zH CI;replace st:=st.keep xA;replace R:=R.keep xA;replace Q:=Q.keep xA;replace E:=E.keep xA;clear xA;have ⟨AO,AP,o_,p_,AQ⟩:=R.box;have ⟨Bi,Bj,Bk,yt,yu,yv⟩:=Q.cG;have Bl:=Q.lt;have ⟨CG,CH,zD,zH,CI⟩:=E.box;go_wp2
 ·skip
  exact bodyPost_ret (v:=.tuple #[.agg #[.int .i64 (-2),.int .i64 1],.agg #[.int .i64 0,.int .i64 1,.int .i64 1]]) (by simp [results,Tryz.results152,go_sem, *]) rfl (⟨(-2),1,0,1,1,rfl,wM (by decide),(((((st.aV (c:=w.heap.size) (o:=0) (by omega) (by omega) (by omega) (.int .i64 (-2))).aV (c:=w.heap.size) (o:=1) (by omega) (by omega) (by omega) (.int .i64 1)).aV (c:=w.heap.size+1) (o:=0) (by omega) (by omega) (by omega) (.int .i64 0)).aV (c:=w.heap.size+1) (o:=1) (by omega) (by omega) (by omega) (.int .i64 1)).aV (c:=w.heap.size+1) (o:=2) (by omega) (by omega) (by omega) (.int .i64 1)).cur.mono (by omega),(((((st.aV (c:=w.heap.size) (o:=0) (by omega) (by omega) (by omega) (.int .i64 (-2))).aV (c:=w.heap.size) (o:=1) (by omega) (by omega) (by omega) (.int .i64 1)).aV (c:=w.heap.size+1) (o:=0) (by omega) (by omega) (by omega) (.int .i64 0)).aV (c:=w.heap.size+1) (o:=1) (by omega) (by omega) (by omega) (.int .i64 1)).aV (c:=w.heap.size+1) (o:=2) (by omega) (by omega) (by omega) (.int .i64 1)).gr⟩)
 skip
 exact bodyPost_ret (v:=.tuple #[.agg #[.int .i64 a,.int .i64 b],.agg #[.int .i64 X,.int .i64 Y,.int .i64 1]]) (by simp [results,Tryz.results152,go_sem, *]) rfl (⟨a,b,X,Y,1,rfl,wM ⟨hg.out,hpt.out⟩,(((((st.aV (c:=w.heap.size) (o:=0) (by omega) (by omega) (by omega) (.int .i64 a)).aV (c:=w.heap.size) (o:=1) (by omega) (by omega) (by omega) (.int .i64 b)).aV (c:=w.heap.size+1) (o:=0) (by omega) (by omega) (by omega) (.int .i64 X)).aV (c:=w.heap.size+1) (o:=1) (by omega) (by omega) (by omega) (.int .i64 Y)).aV (c:=w.heap.size+1) (o:=2) (by omega) (by omega) (by omega) (.int .i64 1)).cur.mono (by omega),(((((st.aV (c:=w.heap.size) (o:=0) (by omega) (by omega) (by omega) (.int .i64 a)).aV (c:=w.heap.size) (o:=1) (by omega) (by omega) (by omega) (.int .i64 b)).aV (c:=w.heap.size+1) (o:=0) (by omega) (by omega) (by omega) (.int .i64 X)).aV (c:=w.heap.size+1) (o:=1) (by omega) (by omega) (by omega) (.int .i64 Y)).aV (c:=w.heap.size+1) (o:=2) (by omega) (by omega) (by omega) (.int .i64 1)).gr⟩)
namespace M
noncomputable def pK (a b X E:Int) (n:Nat):Sp:=if isOk (aU a b X E n)=true then some (hL (hC a b) n (aU a b X E n),hH (hC a b) n (aU a b X E n)) else none
noncomputable def du (a b X Y E n:Int):Sp:=gd (cZ a b X Y E && ins n 0 5) (pK a b X E n.toNat)
noncomputable def iM (a b X E:Int):Nat→Nat→Option Nat
 | 0,_=>none
 | f+1,k=>if isOk (aU a b X E k)=true then (if 0<hL (hC a b) k (aU a b X E k) then some k else iM a b X E f (k+1)) else none
noncomputable def kT (a b X Y E:Int):Option Nat:=if cZ a b X Y E=true then iM a b X E 6 0 else none
noncomputable def kF (a b n:Int):Option (Int × Int):=if (good a b && ins n 0 5)=true then xk (3+2*(hC a b:Nat)) (p4 n.toNat) else none
theorem ns:∀ n:Nat,n≤5→3*ch 4 n=p4 n
 | 0,_=>rfl | 1,_=>rfl | 2,_=>rfl | 3,_=>rfl | 4,_=>rfl | 5,_=>rfl
 | n+6,h=>by omega
theorem lh:∀ n:Nat,n≤5→1≤ch 4 n∧ch 4 n≤1024
 | 0,_=>by decide | 1,_=>by decide | 2,_=>by decide | 3,_=>by decide | 4,_=>by decide | 5,_=>by decide
 | n+6,h=>by omega
theorem mI:F6 none=0:=rfl
theorem tC {x:Int} (h1:-409600000≤x) (h2:x≤409600000):decide (pn x > 0)=decide (x > 0):=by
 obtain ⟨-,-,-,-,h3,h4,-,-,-⟩:=gV (bs h1 h2)
 have:pn x > 0 ↔ x > 0:=by
  generalize pn x=n,4096 / pd x=t at *;subst h3
  constructor
  ·intro h;exact Int.mul_pos h (by omega)
  intro h
  rcases Int.lt_or_le 0 n with q | q
  ·exact q
  have:=Int.mul_nonpos_of_nonpos_of_nonneg q (show 0≤t by omega);omega
 simp only [this]
theorem tA {x y:Int} (h:aR x y=true):decide (pn x > 0)=decide (x > 0):=by
 obtain ⟨h1,h2,h3⟩:=b6 h;exact tC (by omega) (by omega)
end M
theorem pF (a b X Y E n:Int) (w:World) :
  Calls Tryz.prog 59 #[.agg #[.int .i64 a,.int .i64 b],.agg #[.int .i64 X,.int .i64 Y,.int .i64 E],.int .i64 n] w fun e w'=>e=.returned (.bool (M.cZ a b X Y E && M.ins n 0 5))∧Below w.heap.size w w':=by
 have PT:∀ W,Calls Tryz.prog 62 #[.agg #[.int .i64 a,.int .i64 b],.agg #[.int .i64 X,.int .i64 Y,.int .i64 E]] W fun e w'=>e=.returned (.bool (M.cZ a b X Y E))∧Below W.heap.size W w':=fun W=>d7 a b X Y E W
 have PN:∀ W,Calls Tryz.prog 78 #[.int .i64 n,.int .i64 0,.int .i64 5] W fun e w'=>e=.returned (.bool (M.ins n 0 5))∧W=w':=fun W=>dE n 0 5 W
 obtain ⟨wc,hw3,C,Q,B⟩:=dL w #[.int .i64 a,.int .i64 b] 25 #[.int .i64 X,.int .i64 Y,.int .i64 E] 27;have f_:=C.box.c0;have g_:=C.box.c1;have ⟨q0,q1,q2⟩:=Q.aO;replace PN:=wM PN
 cases h0:M.cZ a b X Y E <;> rw [h0] at PT <;> replace PT:=wM PT
 ·go_enter Tryz.func59,Tryz.ntmps59
  go_wp2_with (first | (go_at_call 62;(with_reducible refine (PT.out _).mono ?_);rintro e w4 ⟨rfl,hb4⟩;replace B:=d_ B hb4;replace C:=C.keep hb4;replace Q:=Q.keep hb4;have f_:=C.box.c0;have g_:=C.box.c1;(have ⟨q0,q1,q2⟩:=Q.aO)) | (go_at_call 78;(with_reducible refine (PN.out _).mono ?_);rintro e w5 ⟨rfl,rfl⟩))
  go_ret;exact ⟨by first | rfl | simp,B⟩
 go_enter Tryz.func59,Tryz.ntmps59
 go_wp2_with (first | (go_at_call 62;(with_reducible refine (PT.out _).mono ?_);rintro e w4 ⟨rfl,hb4⟩;replace B:=d_ B hb4;replace C:=C.keep hb4;replace Q:=Q.keep hb4;have f_:=C.box.c0;have g_:=C.box.c1;(have ⟨q0,q1,q2⟩:=Q.aO)) | (go_at_call 78;(with_reducible refine (PN.out _).mono ?_);rintro e w5 ⟨rfl,rfl⟩))
 go_ret;exact ⟨by first | rfl | simp,B⟩
theorem jA (a b X Y E n:Int) (w:World) :
  Calls Tryz.prog 8 #[.agg #[.int .i64 a,.int .i64 b],.agg #[.int .i64 X,.int .i64 Y,.int .i64 E],.int .i64 n] w fun e w'=>e=.returned (.tuple #[.agg #[.int .i64 (M.yY (M.du a b X Y E n)),.int .i64 (M.yZ (M.du a b X Y E n)),.int .i64 (M.ya (M.du a b X Y E n)),.int .i64 (M.yc (M.du a b X Y E n))],.bool (M.du a b X Y E n).isSome])∧Below w.heap.size w w':=by
 have PT:∀ W,Calls Tryz.prog 55 #[.agg #[.int .i64 a,.int .i64 b],.agg #[.int .i64 X,.int .i64 Y,.int .i64 E]] W fun e w'=>e=.returned (.bool (M.cZ a b X Y E))∧Below W.heap.size W w':=fun W=>eJ a b X Y E W
 have PN:∀ W,Calls Tryz.prog 56 #[.int .i64 n,.int .i64 0,.int .i64 5] W fun e w'=>e=.returned (.bool (M.ins n 0 5))∧W=w':=fun W=>cH n 0 5 W
 unfold M.du;obtain ⟨wc,hw3,C,Q,R,B⟩:=jP w #[.int .i64 a,.int .i64 b] 25 #[.int .i64 X,.int .i64 Y,.int .i64 E] 27 #[.int .i64 0,.int .i64 0,.int .i64 0,.int .i64 0] 33;have f_:=C.box.c0;have g_:=C.box.c1;have ⟨q0,q1,q2⟩:=Q.aO
 cases h0:M.cZ a b X Y E with
 | false=>
  simp only [h0,Bool.true_and,Bool.false_and,Bool.and_false] at PT PN ⊢;replace PT:=wM PT;replace PN:=wM PN;rw [M.lY];go_enter Tryz.func8,Tryz.ntmps8
  go_wp2_with (first | (go_at_call 55;(with_reducible refine (PT.out _).mono ?_);rintro e w4 ⟨rfl,hb4⟩;replace B:=d_ B hb4;replace C:=C.keep hb4;replace Q:=Q.keep hb4;replace R:=R.keep hb4;have f_:=C.box.c0;have g_:=C.box.c1;(have ⟨q0,q1,q2⟩:=Q.aO);(have ⟨r0,r1,r2,r3,z0,z1,z2,z3,rl⟩:=R.aP)) | (go_at_call 56;(with_reducible refine (PN.out _).mono ?_);rintro e w5 ⟨rfl,rfl⟩))
  exact bodyPost_ret (v:=.tuple #[.agg #[.int .i64 0,.int .i64 0,.int .i64 0,.int .i64 0],.bool false]) (by simp [results,Tryz.results8,go_sem, *]) rfl (⟨rfl,wO (wO (wO (wO B (by dsimp only;omega) _) (by dsimp only;omega) _) (by dsimp only;omega) _) (by dsimp only;omega) _⟩)
 | true=>
 cases h1:M.ins n 0 5 with
 | false=>
  simp only [h0,h1,Bool.true_and,Bool.false_and,Bool.and_false] at PT PN ⊢;replace PT:=wM PT;replace PN:=wM PN;rw [M.lY];go_enter Tryz.func8,Tryz.ntmps8
  go_wp2_with (first | (go_at_call 55;(with_reducible refine (PT.out _).mono ?_);rintro e w4 ⟨rfl,hb4⟩;replace B:=d_ B hb4;replace C:=C.keep hb4;replace Q:=Q.keep hb4;replace R:=R.keep hb4;have f_:=C.box.c0;have g_:=C.box.c1;(have ⟨q0,q1,q2⟩:=Q.aO);(have ⟨r0,r1,r2,r3,z0,z1,z2,z3,rl⟩:=R.aP)) | (go_at_call 56;(with_reducible refine (PN.out _).mono ?_);rintro e w5 ⟨rfl,rfl⟩))
  exact bodyPost_ret (v:=.tuple #[.agg #[.int .i64 0,.int .i64 0,.int .i64 0,.int .i64 0],.bool false]) (by simp [results,Tryz.results8,go_sem, *]) rfl (⟨rfl,wO (wO (wO (wO B (by dsimp only;omega) _) (by dsimp only;omega) _) (by dsimp only;omega) _) (by dsimp only;omega) _⟩)
 | true=>
 simp only [h0,h1,Bool.and_self] at PT PN ⊢;rw [M.gB];obtain ⟨hg,hp1⟩:=M.dY h0;obtain ⟨p1,p2,p3,p4,-,-⟩:=M.dG (M.ah hg) hp1;obtain ⟨n1,n2⟩:=M.dC.1 h1
 obtain ⟨k,rfl⟩:∃ k:Nat,n=k:=⟨n.toNat,by omega⟩
 rw [Int.toNat_natCast];have hsp:=M.mh (a:=a) (b:=b) (X:=X) (E:=E) (C:=M.hC a b) (n:=k) (by have:=M.eI (M.ah hg);omega) (by omega) p1 p2 p3 p4
 have PR:=fun W=>dt a b X Y E k W hg p1 p2 p3 p4 (by omega)
 clear h0 h1 hg hp1 p1 p2 p3 p4;unfold M.pK;generalize M.isOk (M.aU a b X E k)=ok,M.hH (M.hC a b) k (M.aU a b X E k)=hi,M.hL (M.hC a b) k (M.aU a b X E k)=lo at *;replace PT:=wM PT;replace PN:=wM PN
 have PI:=fun W=>fu lo hi ok W
 rw [hsp,Bool.and_true] at PI;clear hsp
 have e1:M.yY (if ok=true then some (lo,hi) else none)=M.pick ok (M.pn lo):=by cases ok <;> rfl
 have e2:M.yZ (if ok=true then some (lo,hi) else none)=M.pick ok (M.pd lo):=by cases ok <;> rfl
 have e3:M.ya (if ok=true then some (lo,hi) else none)=M.pick ok (M.pn hi):=by cases ok <;> rfl
 have e4:M.yc (if ok=true then some (lo,hi) else none)=M.pick ok (M.pd hi):=by cases ok <;> rfl
 have e5:(if ok=true then some (lo,hi) else none:M.Sp).isSome=ok:=by cases ok <;> rfl
 rw [e1,e2,e3,e4,e5];clear e1 e2 e3 e4 e5;generalize M.pick ok (M.pd hi)=i4,M.pick ok (M.pn hi)=i3,M.pick ok (M.pd lo)=i2,M.pick ok (M.pn lo)=i1 at *;replace PR:=wM PR;replace PI:=wM PI;go_enter Tryz.func8,Tryz.ntmps8
 go_wp2_with (first | (go_at_call 55;(with_reducible refine (PT.out _).mono ?_);rintro e w4 ⟨rfl,hb4⟩;replace B:=d_ B hb4;replace C:=C.keep hb4;replace Q:=Q.keep hb4;replace R:=R.keep hb4;have f_:=C.box.c0;have g_:=C.box.c1;(have ⟨q0,q1,q2⟩:=Q.aO);(have ⟨r0,r1,r2,r3,z0,z1,z2,z3,rl⟩:=R.aP)) | (go_at_call 56;(with_reducible refine (PN.out _).mono ?_);rintro e w5 ⟨rfl,rfl⟩) | (go_at_call 57;(with_reducible refine (PR.out _).mono ?_);rintro e w7 ⟨rfl,xC⟩;replace B:=d_ B xC;replace C:=C.keep xC;replace Q:=Q.keep xC;replace R:=R.keep xC;have f_:=C.box.c0;have g_:=C.box.c1;(have ⟨q0,q1,q2⟩:=Q.aO);(have ⟨r0,r1,r2,r3,z0,z1,z2,z3,rl⟩:=R.aP);have B0:=B;have zY:=B.size;replace B:=B.alloc zY (.cells #[.int .i64 lo,.int .i64 hi] 74);replace R:=R.alloc (.cells #[.int .i64 lo,.int .i64 hi] 74);have V:=aH.new w7 #[.int .i64 lo,.int .i64 hi] 74;(have ⟨r0,r1,r2,r3,z0,z1,z2,z3,rl⟩:=R.aP);(have ⟨v0,v1,_,_,_⟩:=V.box)) | (go_at_call 58;(with_reducible refine (PI.out _).mono ?_);rintro e w8 ⟨rfl,xD⟩;replace B:=d_ B xD;replace R:=R.keep xD;(have ⟨r0,r1,r2,r3,z0,z1,z2,z3,rl⟩:=R.aP)))
 exact bodyPost_ret (v:=.tuple #[.agg #[.int .i64 i1,.int .i64 i2,.int .i64 i3,.int .i64 i4],.bool ok]) (by simp [results,Tryz.results8,go_sem, *]) rfl (⟨rfl,wO (wO (wO (wO B (by dsimp only;omega) _) (by dsimp only;omega) _) (by dsimp only;omega) _) (by dsimp only;omega) _⟩)
theorem jL (a b X Y E n:Int) (w:World) :
  Calls Tryz.prog 9 #[.agg #[.int .i64 a,.int .i64 b],.agg #[.int .i64 X,.int .i64 Y,.int .i64 E],.int .i64 n] w fun e w'=>e=.returned (.tuple #[.agg #[.int .i64 (M.yY (M.du a b X Y E n)),.int .i64 (M.yZ (M.du a b X Y E n)),.int .i64 (M.ya (M.du a b X Y E n)),.int .i64 (M.yc (M.du a b X Y E n))],.bool (M.du a b X Y E n).isSome])∧Below w.heap.size w w':=by
 have PT:=fun W=>pF a b X Y E n W
 unfold M.du;obtain ⟨wc,hw3,C,Q,R,B⟩:=jP w #[.int .i64 a,.int .i64 b] 25 #[.int .i64 X,.int .i64 Y,.int .i64 E] 27 #[.int .i64 0,.int .i64 0,.int .i64 0,.int .i64 0] 33;have f_:=C.box.c0;have g_:=C.box.c1;have ⟨q0,q1,q2⟩:=Q.aO
 cases h0:M.cZ a b X Y E with
 | false=>
  simp only [h0,Bool.true_and,Bool.false_and,Bool.and_false] at PT ⊢;replace PT:=wM PT;rw [M.lY];go_enter Tryz.func9,Tryz.ntmps9
  go_wp2_with (first | (go_at_call 59;(with_reducible refine (PT.out _).mono ?_);rintro e w4 ⟨rfl,hb4⟩;replace B:=d_ B hb4;replace C:=C.keep hb4;replace Q:=Q.keep hb4;replace R:=R.keep hb4;have f_:=C.box.c0;have g_:=C.box.c1;(have ⟨q0,q1,q2⟩:=Q.aO);(have ⟨r0,r1,r2,r3,z0,z1,z2,z3,rl⟩:=R.aP)))
  exact bodyPost_ret (v:=.tuple #[.agg #[.int .i64 0,.int .i64 0,.int .i64 0,.int .i64 0],.bool false]) (by simp [results,Tryz.results9,go_sem, *]) rfl (⟨rfl,wO (wO (wO (wO B (by dsimp only;omega) _) (by dsimp only;omega) _) (by dsimp only;omega) _) (by dsimp only;omega) _⟩)
 | true=>
 cases h1:M.ins n 0 5 with
 | false=>
  simp only [h0,h1,Bool.true_and,Bool.false_and,Bool.and_false] at PT ⊢;replace PT:=wM PT;rw [M.lY];go_enter Tryz.func9,Tryz.ntmps9
  go_wp2_with (first | (go_at_call 59;(with_reducible refine (PT.out _).mono ?_);rintro e w4 ⟨rfl,hb4⟩;replace B:=d_ B hb4;replace C:=C.keep hb4;replace Q:=Q.keep hb4;replace R:=R.keep hb4;have f_:=C.box.c0;have g_:=C.box.c1;(have ⟨q0,q1,q2⟩:=Q.aO);(have ⟨r0,r1,r2,r3,z0,z1,z2,z3,rl⟩:=R.aP)))
  exact bodyPost_ret (v:=.tuple #[.agg #[.int .i64 0,.int .i64 0,.int .i64 0,.int .i64 0],.bool false]) (by simp [results,Tryz.results9,go_sem, *]) rfl (⟨rfl,wO (wO (wO (wO B (by dsimp only;omega) _) (by dsimp only;omega) _) (by dsimp only;omega) _) (by dsimp only;omega) _⟩)
 | true=>
 simp only [h0,h1,Bool.and_self] at PT ⊢;rw [M.gB];obtain ⟨hg,hp1⟩:=M.dY h0;obtain ⟨p1,p2,p3,p4,-,-⟩:=M.dG (M.ah hg) hp1;obtain ⟨n1,n2⟩:=M.dC.1 h1
 obtain ⟨k,rfl⟩:∃ k:Nat,n=k:=⟨n.toNat,by omega⟩
 rw [Int.toNat_natCast];have hsp:=M.mh (a:=a) (b:=b) (X:=X) (E:=E) (C:=M.hC a b) (n:=k) (by have:=M.eI (M.ah hg);omega) (by omega) p1 p2 p3 p4
 have PR:=fun W=>eS a b X Y E k W hg p1 p2 p3 p4 (by omega)
 clear h0 h1 hg hp1 p1 p2 p3 p4;unfold M.pK;generalize M.isOk (M.aU a b X E k)=ok,M.hH (M.hC a b) k (M.aU a b X E k)=hi,M.hL (M.hC a b) k (M.aU a b X E k)=lo at *;replace PT:=wM PT;clear hsp
 have e1:M.yY (if ok=true then some (lo,hi) else none)=M.pick ok (M.pn lo):=by cases ok <;> rfl
 have e2:M.yZ (if ok=true then some (lo,hi) else none)=M.pick ok (M.pd lo):=by cases ok <;> rfl
 have e3:M.ya (if ok=true then some (lo,hi) else none)=M.pick ok (M.pn hi):=by cases ok <;> rfl
 have e4:M.yc (if ok=true then some (lo,hi) else none)=M.pick ok (M.pd hi):=by cases ok <;> rfl
 have e5:(if ok=true then some (lo,hi) else none:M.Sp).isSome=ok:=by cases ok <;> rfl
 rw [e1,e2,e3,e4,e5];clear e1 e2 e3 e4 e5;generalize M.pick ok (M.pd hi)=i4,M.pick ok (M.pn hi)=i3,M.pick ok (M.pd lo)=i2,M.pick ok (M.pn lo)=i1 at *;replace PR:=wM PR;go_enter Tryz.func9,Tryz.ntmps9
 go_wp2_with (first | (go_at_call 59;(with_reducible refine (PT.out _).mono ?_);rintro e w4 ⟨rfl,hb4⟩;replace B:=d_ B hb4;replace C:=C.keep hb4;replace Q:=Q.keep hb4;replace R:=R.keep hb4;have f_:=C.box.c0;have g_:=C.box.c1;(have ⟨q0,q1,q2⟩:=Q.aO);(have ⟨r0,r1,r2,r3,z0,z1,z2,z3,rl⟩:=R.aP)) | (go_at_call 60;(with_reducible refine (PR.out _).mono ?_);rintro e w7 ⟨rfl,xC⟩;replace B:=d_ B xC;replace R:=R.keep xC;(have ⟨r0,r1,r2,r3,z0,z1,z2,z3,rl⟩:=R.aP)))
 exact bodyPost_ret (v:=.tuple #[.agg #[.int .i64 i1,.int .i64 i2,.int .i64 i3,.int .i64 i4],.bool ok]) (by simp [results,Tryz.results9,go_sem, *]) rfl (⟨rfl,wO (wO (wO (wO B (by dsimp only;omega) _) (by dsimp only;omega) _) (by dsimp only;omega) _) (by dsimp only;omega) _⟩)
theorem cE (a b X Y E n:Int) (w:World) :
  Calls Tryz.prog 13 #[.agg #[.int .i64 a,.int .i64 b],.agg #[.int .i64 X,.int .i64 Y,.int .i64 E],.int .i64 n] w fun e w'=>e=.returned (.tuple #[.bool (decide (0<M.F6 (M.du a b X Y E n))),.bool (M.du a b X Y E n).isSome])∧Below w.heap.size w w':=by
 have PT:∀ W,Calls Tryz.prog 55 #[.agg #[.int .i64 a,.int .i64 b],.agg #[.int .i64 X,.int .i64 Y,.int .i64 E]] W fun e w'=>e=.returned (.bool (M.cZ a b X Y E))∧Below W.heap.size W w':=fun W=>eJ a b X Y E W
 have PN:∀ W,Calls Tryz.prog 56 #[.int .i64 n,.int .i64 0,.int .i64 5] W fun e w'=>e=.returned (.bool (M.ins n 0 5))∧W=w':=fun W=>cH n 0 5 W
 unfold M.du;obtain ⟨wc,hw3,C,Q,B⟩:=dL w #[.int .i64 a,.int .i64 b] 25 #[.int .i64 X,.int .i64 Y,.int .i64 E] 27;have f_:=C.box.c0;have g_:=C.box.c1;have ⟨q0,q1,q2⟩:=Q.aO
 cases h0:M.cZ a b X Y E with
 | false=>
  simp only [h0,Bool.true_and,Bool.false_and,Bool.and_false] at PT PN ⊢;replace PT:=wM PT;replace PN:=wM PN;rw [M.lY];go_enter Tryz.func13,Tryz.ntmps13
  go_wp2_with (first | (go_at_call 55;(with_reducible refine (PT.out _).mono ?_);rintro e w4 ⟨rfl,hb4⟩;replace B:=d_ B hb4;replace C:=C.keep hb4;replace Q:=Q.keep hb4;have f_:=C.box.c0;have g_:=C.box.c1;(have ⟨q0,q1,q2⟩:=Q.aO)) | (go_at_call 56;(with_reducible refine (PN.out _).mono ?_);rintro e w5 ⟨rfl,rfl⟩))
  go_ret2;exact ⟨by rw [M.mI];rfl,B⟩
 | true=>
 cases h1:M.ins n 0 5 with
 | false=>
  simp only [h0,h1,Bool.true_and,Bool.false_and,Bool.and_false] at PT PN ⊢;replace PT:=wM PT;replace PN:=wM PN;rw [M.lY];go_enter Tryz.func13,Tryz.ntmps13
  go_wp2_with (first | (go_at_call 55;(with_reducible refine (PT.out _).mono ?_);rintro e w4 ⟨rfl,hb4⟩;replace B:=d_ B hb4;replace C:=C.keep hb4;replace Q:=Q.keep hb4;have f_:=C.box.c0;have g_:=C.box.c1;(have ⟨q0,q1,q2⟩:=Q.aO)) | (go_at_call 56;(with_reducible refine (PN.out _).mono ?_);rintro e w5 ⟨rfl,rfl⟩))
  go_ret2;exact ⟨by rw [M.mI];rfl,B⟩
 | true=>
 simp only [h0,h1,Bool.and_self] at PT PN ⊢;rw [M.gB];obtain ⟨hg,hp1⟩:=M.dY h0;obtain ⟨p1,p2,p3,p4,-,-⟩:=M.dG (M.ah hg) hp1;obtain ⟨n1,n2⟩:=M.dC.1 h1
 obtain ⟨k,rfl⟩:∃ k:Nat,n=k:=⟨n.toNat,by omega⟩
 rw [Int.toNat_natCast]
 have PR:=fun W=>dt a b X Y E k W hg p1 p2 p3 p4 (by omega)
 clear h0 h1 hg hp1 p1 p2 p3 p4;unfold M.pK;generalize M.isOk (M.aU a b X E k)=ok,M.hH (M.hC a b) k (M.aU a b X E k)=hi,M.hL (M.hC a b) k (M.aU a b X E k)=lo at *;replace PT:=wM PT;replace PN:=wM PN
 cases ok with
 | false=>
  replace PR:=wM PR;go_enter Tryz.func13,Tryz.ntmps13
  go_wp2_with (first | (go_at_call 55;(with_reducible refine (PT.out _).mono ?_);rintro e w4 ⟨rfl,hb4⟩;replace B:=d_ B hb4;replace C:=C.keep hb4;replace Q:=Q.keep hb4;have f_:=C.box.c0;have g_:=C.box.c1;(have ⟨q0,q1,q2⟩:=Q.aO)) | (go_at_call 56;(with_reducible refine (PN.out _).mono ?_);rintro e w5 ⟨rfl,rfl⟩) | (go_at_call 57;(with_reducible refine (PR.out _).mono ?_);rintro e w7 ⟨rfl,xC⟩;replace B:=d_ B xC;have B0:=B;have zY:=B.size;replace B:=B.alloc zY (.cells #[.int .i64 lo,.int .i64 hi] 74);have V:=aH.new w7 #[.int .i64 lo,.int .i64 hi] 74;(have ⟨v0,v1,_,_,_⟩:=V.box)))
  go_ret2;exact ⟨rfl,B⟩
 | true=>
 replace PR:=wM PR;have hs:M.F6 (if true=true then some (lo,hi) else none)=lo:=rfl;rw [hs];clear hs;go_enter Tryz.func13,Tryz.ntmps13
 go_wp2_with (first | (go_at_call 55;(with_reducible refine (PT.out _).mono ?_);rintro e w4 ⟨rfl,hb4⟩;replace B:=d_ B hb4;replace C:=C.keep hb4;replace Q:=Q.keep hb4;have f_:=C.box.c0;have g_:=C.box.c1;(have ⟨q0,q1,q2⟩:=Q.aO)) | (go_at_call 56;(with_reducible refine (PN.out _).mono ?_);rintro e w5 ⟨rfl,rfl⟩) | (go_at_call 57;(with_reducible refine (PR.out _).mono ?_);rintro e w7 ⟨rfl,xC⟩;replace B:=d_ B xC;have B0:=B;have zY:=B.size;replace B:=B.alloc zY (.cells #[.int .i64 lo,.int .i64 hi] 74);have V:=aH.new w7 #[.int .i64 lo,.int .i64 hi] 74;(have ⟨v0,v1,_,_,_⟩:=V.box)))
 go_ret2;exact ⟨rfl,B⟩
theorem gE (a b n:Int) (w:World) :
  Calls Tryz.prog 21 #[.agg #[.int .i64 a,.int .i64 b],.int .i64 n] w fun e w'=>e=.returned (.tuple #[.agg #[.int .i64 (M.fN (M.kF a b n)),.int .i64 (M.fD (M.kF a b n))],.bool (M.kF a b n).isSome])∧Below w.heap.size w w':=by
 have PT:∀ W,Calls Tryz.prog 73 #[.agg #[.int .i64 a,.int .i64 b]] W fun e w'=>e=.returned (.bool (M.good a b))∧Below W.heap.size W w':=fun W=>jf a b W
 have PN:∀ W,Calls Tryz.prog 56 #[.int .i64 n,.int .i64 0,.int .i64 5] W fun e w'=>e=.returned (.bool (M.ins n 0 5))∧W=w':=fun W=>cH n 0 5 W
 unfold M.kF;obtain ⟨wc,hw3,C,R2,B⟩:=dL w #[.int .i64 a,.int .i64 b] 25 #[.int .i64 0,.int .i64 0] 31;have f_:=C.box.c0;have g_:=C.box.c1
 cases h0:M.good a b with
 | false=>
  simp only [h0,Bool.true_and,Bool.false_and,Bool.and_false] at PT PN ⊢;replace PT:=wM PT;replace PN:=wM PN;rw [if_neg (by decide)];go_enter Tryz.func21,Tryz.ntmps21
  go_wp2_with (first | (go_at_call 73;(with_reducible refine (PT.out _).mono ?_);rintro e w4 ⟨rfl,hb4⟩;replace B:=d_ B hb4;replace C:=C.keep hb4;replace R2:=R2.keep hb4;have f_:=C.box.c0;have g_:=C.box.c1;(have ⟨r0,r1,CE,CF,rl⟩:=R2.box)) | (go_at_call 56;(with_reducible refine (PN.out _).mono ?_);rintro e w5 ⟨rfl,rfl⟩))
  exact bodyPost_ret (v:=.tuple #[.agg #[.int .i64 0,.int .i64 0],.bool false]) (by simp [results,Tryz.results21,go_sem, *]) rfl (⟨rfl,wO (wO B (by dsimp only;omega) _) (by dsimp only;omega) _⟩)
 | true=>
 cases h1:M.ins n 0 5 with
 | false=>
  simp only [h0,h1,Bool.true_and,Bool.false_and,Bool.and_false] at PT PN ⊢;replace PT:=wM PT;replace PN:=wM PN;rw [if_neg (by decide)];go_enter Tryz.func21,Tryz.ntmps21
  go_wp2_with (first | (go_at_call 73;(with_reducible refine (PT.out _).mono ?_);rintro e w4 ⟨rfl,hb4⟩;replace B:=d_ B hb4;replace C:=C.keep hb4;replace R2:=R2.keep hb4;have f_:=C.box.c0;have g_:=C.box.c1;(have ⟨r0,r1,CE,CF,rl⟩:=R2.box)) | (go_at_call 56;(with_reducible refine (PN.out _).mono ?_);rintro e w5 ⟨rfl,rfl⟩))
  exact bodyPost_ret (v:=.tuple #[.agg #[.int .i64 0,.int .i64 0],.bool false]) (by simp [results,Tryz.results21,go_sem, *]) rfl (⟨rfl,wO (wO B (by dsimp only;omega) _) (by dsimp only;omega) _⟩)
 | true=>
 simp only [h0,h1,Bool.and_self] at PT PN ⊢;rw [if_pos trivial];obtain ⟨n1,n2⟩:=M.dC.1 h1
 obtain ⟨k,rfl⟩:∃ k:Nat,n=k:=⟨n.toNat,by omega⟩
 rw [Int.toNat_natCast];have hC:=M.eI (M.ah h0);have hp:=M.lh k (by omega);have hq:=M.ns k (by omega)
 have PC:=fun W=>dp a b W (M.ah h0)
 have PP:=fun W=>mi 4 (k:Int) W (by omega) (by omega) (by omega) (by omega)
 rw [Int.toNat_natCast] at PP
 have PF:=fun W=>dz (3+2*(M.hC a b:Nat)) (3*M.ch 4 k) W (by omega) (by omega) (by omega) (by omega) (by omega)
 rw [←hq];generalize M.ch 4 k=pp at *;clear hq h0 h1
 obtain ⟨cc,hcc⟩:∃ x:Int,x=((M.hC a b:Nat):Int):=⟨_,rfl⟩
 have hc1:0≤cc:=by omega
 have hc2:cc≤60:=by omega
 rw [←hcc] at PC PF ⊢;clear hcc hC;generalize (M.xk (3+2*cc) (3*pp)).isSome=ok,M.fD (M.xk (3+2*cc) (3*pp))=f2,M.fN (M.xk (3+2*cc) (3*pp))=f1 at *;replace PT:=wM PT;replace PN:=wM PN;replace PC:=wM PC;replace PP:=wM PP;replace PF:=wM PF;go_enter Tryz.func21,Tryz.ntmps21
 go_wp2_with (first | (go_at_call 73;(with_reducible refine (PT.out _).mono ?_);rintro e w4 ⟨rfl,hb4⟩;replace B:=d_ B hb4;replace C:=C.keep hb4;replace R2:=R2.keep hb4;have f_:=C.box.c0;have g_:=C.box.c1;(have ⟨r0,r1,CE,CF,rl⟩:=R2.box)) | (go_at_call 56;(with_reducible refine (PN.out _).mono ?_);rintro e w5 ⟨rfl,rfl⟩) | (go_at_call 75;(with_reducible refine (PC.out _).mono ?_);rintro e w7 ⟨rfl,xC⟩;replace B:=d_ B xC;replace R2:=R2.keep xC;(have ⟨r0,r1,CE,CF,rl⟩:=R2.box)) | (go_at_call 76;(with_reducible refine (PP.out _).mono ?_);rintro e w6 ⟨rfl,rfl⟩) | (go_at_call 74;(with_reducible refine (PF.out _).mono ?_);rintro e w8 ⟨rfl,xD⟩;replace B:=d_ B xD;replace R2:=R2.keep xD;(have ⟨r0,r1,CE,CF,rl⟩:=R2.box)))
 exact bodyPost_ret (v:=.tuple #[.agg #[.int .i64 f1,.int .i64 f2],.bool ok]) (by simp [results,Tryz.results21,go_sem, *]) rfl (⟨rfl,wO (wO B (by dsimp only;omega) _) (by dsimp only;omega) _⟩)
theorem gI (a b n:Int) (w:World) :
  Calls Tryz.prog 22 #[.agg #[.int .i64 a,.int .i64 b],.int .i64 n] w fun e w'=>e=.returned (.tuple #[.agg #[.int .i64 (M.fN (M.kF a b n)),.int .i64 (M.fD (M.kF a b n))],.bool (M.kF a b n).isSome])∧Below w.heap.size w w':=by
 have PT:∀ W,Calls Tryz.prog 77 #[.agg #[.int .i64 a,.int .i64 b]] W fun e w'=>e=.returned (.bool (M.good a b))∧Below W.heap.size W w':=fun W=>dq a b W
 have PN:∀ W,Calls Tryz.prog 78 #[.int .i64 n,.int .i64 0,.int .i64 5] W fun e w'=>e=.returned (.bool (M.ins n 0 5))∧W=w':=fun W=>dE n 0 5 W
 unfold M.kF;obtain ⟨wc,hw3,C,R2,B⟩:=dL w #[.int .i64 a,.int .i64 b] 25 #[.int .i64 0,.int .i64 0] 31;have f_:=C.box.c0;have g_:=C.box.c1
 cases h0:M.good a b with
 | false=>
  simp only [h0,Bool.true_and,Bool.false_and,Bool.and_false] at PT PN ⊢;replace PT:=wM PT;replace PN:=wM PN;rw [if_neg (by decide)];go_enter Tryz.func22,Tryz.ntmps22
  go_wp2_with (first | (go_at_call 77;(with_reducible refine (PT.out _).mono ?_);rintro e w4 ⟨rfl,hb4⟩;replace B:=d_ B hb4;replace C:=C.keep hb4;replace R2:=R2.keep hb4;have f_:=C.box.c0;have g_:=C.box.c1;(have ⟨r0,r1,CE,CF,rl⟩:=R2.box)) | (go_at_call 78;(with_reducible refine (PN.out _).mono ?_);rintro e w5 ⟨rfl,rfl⟩))
  exact bodyPost_ret (v:=.tuple #[.agg #[.int .i64 0,.int .i64 0],.bool false]) (by simp [results,Tryz.results22,go_sem, *]) rfl (⟨rfl,wO (wO B (by dsimp only;omega) _) (by dsimp only;omega) _⟩)
 | true=>
 cases h1:M.ins n 0 5 with
 | false=>
  simp only [h0,h1,Bool.true_and,Bool.false_and,Bool.and_false] at PT PN ⊢;replace PT:=wM PT;replace PN:=wM PN;rw [if_neg (by decide)];go_enter Tryz.func22,Tryz.ntmps22
  go_wp2_with (first | (go_at_call 77;(with_reducible refine (PT.out _).mono ?_);rintro e w4 ⟨rfl,hb4⟩;replace B:=d_ B hb4;replace C:=C.keep hb4;replace R2:=R2.keep hb4;have f_:=C.box.c0;have g_:=C.box.c1;(have ⟨r0,r1,CE,CF,rl⟩:=R2.box)) | (go_at_call 78;(with_reducible refine (PN.out _).mono ?_);rintro e w5 ⟨rfl,rfl⟩))
  exact bodyPost_ret (v:=.tuple #[.agg #[.int .i64 0,.int .i64 0],.bool false]) (by simp [results,Tryz.results22,go_sem, *]) rfl (⟨rfl,wO (wO B (by dsimp only;omega) _) (by dsimp only;omega) _⟩)
 | true=>
 simp only [h0,h1,Bool.and_self] at PT PN ⊢;rw [if_pos trivial];obtain ⟨n1,n2⟩:=M.dC.1 h1
 obtain ⟨k,rfl⟩:∃ k:Nat,n=k:=⟨n.toNat,by omega⟩
 rw [Int.toNat_natCast];have hC:=M.eI (M.ah h0);have hp:=M.lh k (by omega);have hq:=M.ns k (by omega)
 have PC:=fun W=>gD a b W (M.ah h0)
 have PP:=fun W=>ja k W (by omega)
 have PF:=fun W=>i7 (3+2*(M.hC a b:Nat)) (M.p4 k) W (by omega) (by omega) (by omega) (by omega) (by omega)
 generalize M.p4 k=pp at *;clear hq h0 h1
 obtain ⟨cc,hcc⟩:∃ x:Int,x=((M.hC a b:Nat):Int):=⟨_,rfl⟩
 have hc1:0≤cc:=by omega
 have hc2:cc≤60:=by omega
 rw [←hcc] at PC PF ⊢;clear hcc hC;generalize (M.xk (3+2*cc) pp).isSome=ok,M.fD (M.xk (3+2*cc) pp)=f2,M.fN (M.xk (3+2*cc) pp)=f1 at *;replace PT:=wM PT;replace PN:=wM PN;replace PC:=wM PC;replace PP:=wM PP;replace PF:=wM PF;go_enter Tryz.func22,Tryz.ntmps22
 go_wp2_with (first | (go_at_call 77;(with_reducible refine (PT.out _).mono ?_);rintro e w4 ⟨rfl,hb4⟩;replace B:=d_ B hb4;replace C:=C.keep hb4;replace R2:=R2.keep hb4;have f_:=C.box.c0;have g_:=C.box.c1;(have ⟨r0,r1,CE,CF,rl⟩:=R2.box)) | (go_at_call 78;(with_reducible refine (PN.out _).mono ?_);rintro e w5 ⟨rfl,rfl⟩) | (go_at_call 80;(with_reducible refine (PC.out _).mono ?_);rintro e w7 ⟨rfl,xC⟩;replace B:=d_ B xC;replace R2:=R2.keep xC;(have ⟨r0,r1,CE,CF,rl⟩:=R2.box)) | (go_at_call 81;(with_reducible refine (PP.out _).mono ?_);rintro e w6 ⟨rfl,rfl⟩) | (go_at_call 79;(with_reducible refine (PF.out _).mono ?_);rintro e w8 ⟨rfl,xD⟩;replace B:=d_ B xD;replace R2:=R2.keep xD;(have ⟨r0,r1,CE,CF,rl⟩:=R2.box)))
 exact bodyPost_ret (v:=.tuple #[.agg #[.int .i64 f1,.int .i64 f2],.bool ok]) (by simp [results,Tryz.results22,go_sem, *]) rfl (⟨rfl,wO (wO B (by dsimp only;omega) _) (by dsimp only;omega) _⟩)
theorem fH (a b X Y E:Int) (w:World) :
  Calls Tryz.prog 18 #[.agg #[.int .i64 a,.int .i64 b],.agg #[.int .i64 X,.int .i64 Y,.int .i64 E]] w fun e w'=>e=.returned (.tuple #[.int .i64 ((M.kT a b X Y E).getD 0:Nat),.bool (M.kT a b X Y E).isSome])∧Below w.heap.size w w':=by
 have PT:∀ W,Calls Tryz.prog 55 #[.agg #[.int .i64 a,.int .i64 b],.agg #[.int .i64 X,.int .i64 Y,.int .i64 E]] W fun e w'=>e=.returned (.bool (M.cZ a b X Y E))∧Below W.heap.size W w':=fun W=>eJ a b X Y E W
 unfold M.kT;obtain ⟨wc,hw3,C,Q,B⟩:=dL w #[.int .i64 a,.int .i64 b] 25 #[.int .i64 X,.int .i64 Y,.int .i64 E] 27;have f_:=C.box.c0;have g_:=C.box.c1;have ⟨q0,q1,q2⟩:=Q.aO
 cases h0:M.cZ a b X Y E with
 | false=>
  rw [h0] at PT;replace PT:=wM PT;rw [if_neg (by decide)];go_enter Tryz.func18,Tryz.ntmps18
  go_wp2_with (first | (go_at_call 55;(with_reducible refine (PT.out _).mono ?_);rintro e w4 ⟨rfl,hb4⟩;replace B:=d_ B hb4;replace C:=C.keep hb4;replace Q:=Q.keep hb4;have f_:=C.box.c0;have g_:=C.box.c1;(have ⟨q0,q1,q2⟩:=Q.aO)))
  go_ret2;exact ⟨rfl,B⟩
 | true=>
 rw [h0] at PT;rw [if_pos rfl];obtain ⟨hg,hp1⟩:=M.dY h0;obtain ⟨p1,p2,p3,p4,-,-⟩:=M.dG (M.ah hg) hp1
 have PR:=fun (k:Nat) (hk:k≤5) W=>dt a b X Y E k W hg p1 p2 p3 p4 hk
 have hsp:=fun (k:Nat) (hk:k≤5)=>M.mh (a:=a) (b:=b) (X:=X) (E:=E) (C:=M.hC a b) (n:=k) (by have:=M.eI (M.ah hg);omega) hk p1 p2 p3 p4
 have hst:∀ f k:Nat,M.iM a b X E (f+1) k=if M.isOk (M.aU a b X E k)=true then (if 0<M.hL (M.hC a b) k (M.aU a b X E k) then some k else M.iM a b X E f (k+1)) else none:=fun _ _=>rfl
 obtain ⟨res,hres⟩:∃ r,M.iM a b X E 6 0=r:=⟨_,rfl⟩
 rw [hres];replace hres:=wM hres;replace PT:=wM PT;replace PR:=wM PR;replace hsp:=wM hsp;replace hst:=wM hst;clear h0 hg hp1 p1 p2 p3 p4;go_enter Tryz.func18,Tryz.ntmps18
 go_wp2_with (first | (go_at_call 55;(with_reducible refine (PT.out _).mono ?_);rintro e w4 ⟨rfl,hb4⟩;replace B:=d_ B hb4;replace C:=C.keep hb4;replace Q:=Q.keep hb4;have f_:=C.box.c0;have g_:=C.box.c1;(have ⟨q0,q1,q2⟩:=Q.aO)))
 go_loopw [13] (fun vi wq=>∃ j:Nat,j≤6∧vi=.int .i64 j∧Hid (M.iM a b X E (6 - j) j=res)∧Below w.heap.size w wq∧aH wq w.heap.size 25 #[.int .i64 a,.int .i64 b]∧aH wq (w.heap.size+1) 27 #[.int .i64 X,.int .i64 Y,.int .i64 E]) (fun vi _=>6 - (intOf vi).toNat)
 case atStart=>exact ⟨0,by omega,rfl,hres,B,C,Q⟩
 case round=>
 clear B C Q f_ g_ q0 q1 q2 hres PT;obtain ⟨j,hj,rfl,hres,B,C,Q⟩:=hrel
 by_cases hlt:j<6
 ·obtain ⟨m,hm⟩:∃ m,6 - j=m+1:=⟨5 - j,by omega⟩
  rw [hm] at hres;replace hres:=wM ((hst.out m j).symm.trans hres.out)
  have hm2:6 - (j+1)=m:=by omega
  replace PR:=PR.out j (by omega);replace hsp:=hsp.out j (by omega);generalize M.isOk (M.aU a b X E j)=ok,M.hH (M.hC a b) j (M.aU a b X E j)=hi,M.hL (M.hC a b) j (M.aU a b X E j)=lo at *;have f_:=C.box.c0;have g_:=C.box.c1;have ⟨q0,q1,q2⟩:=Q.aO
  cases ok with
  | false=>
   obtain rfl:=(hres.out.symm.trans (if_neg (by decide)))
   replace PR:=wM PR
   go_wp2_with (first | (go_at_call 57;(with_reducible refine (PR.out _).mono ?_);rintro e w7 ⟨rfl,xC⟩;replace B:=d_ B xC;replace C:=C.keep xC;replace Q:=Q.keep xC;have f_:=C.box.c0;have g_:=C.box.c1;(have ⟨q0,q1,q2⟩:=Q.aO);have B0:=B;have zY:=B.size;replace B:=B.alloc zY (.cells #[.int .i64 lo,.int .i64 hi] 74);replace C:=C.alloc (.cells #[.int .i64 lo,.int .i64 hi] 74);replace Q:=Q.alloc (.cells #[.int .i64 lo,.int .i64 hi] 74);have V:=aH.new w7 #[.int .i64 lo,.int .i64 hi] 74;have f_:=C.box.c0;have g_:=C.box.c1;(have ⟨q0,q1,q2⟩:=Q.aO);(have ⟨v0,v1,_,_,_⟩:=V.box)))
   go_ret2;exact ⟨rfl,B⟩
  | true=>
  replace hres:=wM ((if_pos rfl).symm.trans hres.out);replace PR:=wM PR
  by_cases hp:0<lo
  ·obtain rfl:=hres.out.symm.trans (if_pos hp)
   clear hres
   go_wp2_with (first | (go_at_call 57;(with_reducible refine (PR.out _).mono ?_);rintro e w7 ⟨rfl,xC⟩;replace B:=d_ B xC;replace C:=C.keep xC;replace Q:=Q.keep xC;have f_:=C.box.c0;have g_:=C.box.c1;(have ⟨q0,q1,q2⟩:=Q.aO);have B0:=B;have zY:=B.size;replace B:=B.alloc zY (.cells #[.int .i64 lo,.int .i64 hi] 74);replace C:=C.alloc (.cells #[.int .i64 lo,.int .i64 hi] 74);replace Q:=Q.alloc (.cells #[.int .i64 lo,.int .i64 hi] 74);have V:=aH.new w7 #[.int .i64 lo,.int .i64 hi] 74;have f_:=C.box.c0;have g_:=C.box.c1;(have ⟨q0,q1,q2⟩:=Q.aO);(have ⟨v0,v1,_,_,_⟩:=V.box)))
   go_ret2;exact ⟨rfl,B⟩
  replace hres:=wM ((if_neg hp).symm.trans hres.out);rw [←hm2] at hres;clear hm hm2
  go_wp2_with (first | (go_at_call 57;(with_reducible refine (PR.out _).mono ?_);rintro e w7 ⟨rfl,xC⟩;replace B:=d_ B xC;replace C:=C.keep xC;replace Q:=Q.keep xC;have f_:=C.box.c0;have g_:=C.box.c1;(have ⟨q0,q1,q2⟩:=Q.aO);have B0:=B;have zY:=B.size;replace B:=B.alloc zY (.cells #[.int .i64 lo,.int .i64 hi] 74);replace C:=C.alloc (.cells #[.int .i64 lo,.int .i64 hi] 74);replace Q:=Q.alloc (.cells #[.int .i64 lo,.int .i64 hi] 74);have V:=aH.new w7 #[.int .i64 lo,.int .i64 hi] 74;have f_:=C.box.c0;have g_:=C.box.c1;(have ⟨q0,q1,q2⟩:=Q.aO);(have ⟨v0,v1,_,_,_⟩:=V.box)))
  go_roundw
  case rel=>exact ⟨j+1,by omega,by go_num,hres,B,C,Q⟩
  case measure=>simp [intOf];omega
 obtain rfl:j=6:=by omega
 obtain rfl:res=none:=hres.out.symm;go_wp2;go_ret2;exact ⟨rfl,B⟩
theorem fP (a b X Y E:Int) (w:World) :
  Calls Tryz.prog 19 #[.agg #[.int .i64 a,.int .i64 b],.agg #[.int .i64 X,.int .i64 Y,.int .i64 E]] w fun e w'=>e=.returned (.tuple #[.int .i64 ((M.kT a b X Y E).getD 0:Nat),.bool (M.kT a b X Y E).isSome])∧Below w.heap.size w w':=by
 have PT:∀ W,Calls Tryz.prog 62 #[.agg #[.int .i64 a,.int .i64 b],.agg #[.int .i64 X,.int .i64 Y,.int .i64 E]] W fun e w'=>e=.returned (.bool (M.cZ a b X Y E))∧Below W.heap.size W w':=fun W=>d7 a b X Y E W
 unfold M.kT;obtain ⟨wc,hw3,C,Q,B⟩:=dL w #[.int .i64 a,.int .i64 b] 25 #[.int .i64 X,.int .i64 Y,.int .i64 E] 27;have f_:=C.box.c0;have g_:=C.box.c1;have ⟨q0,q1,q2⟩:=Q.aO
 cases h0:M.cZ a b X Y E with
 | false=>
  rw [h0] at PT;replace PT:=wM PT;rw [if_neg (by decide)];go_enter Tryz.func19,Tryz.ntmps19
  go_wp2_with (first | (go_at_call 62;(with_reducible refine (PT.out _).mono ?_);rintro e w4 ⟨rfl,hb4⟩;replace B:=d_ B hb4;replace C:=C.keep hb4;replace Q:=Q.keep hb4;have f_:=C.box.c0;have g_:=C.box.c1;(have ⟨q0,q1,q2⟩:=Q.aO)))
  go_ret2;exact ⟨rfl,B⟩
 | true=>
 rw [h0] at PT;rw [if_pos rfl];obtain ⟨hg,hp1⟩:=M.dY h0;obtain ⟨p1,p2,p3,p4,-,-⟩:=M.dG (M.ah hg) hp1
 have PR:=fun (k:Nat) (hk:k≤5) W=>eS a b X Y E k W hg p1 p2 p3 p4 hk
 have hsp:=fun (k:Nat) (hk:k≤5)=>M.mh (a:=a) (b:=b) (X:=X) (E:=E) (C:=M.hC a b) (n:=k) (by have:=M.eI (M.ah hg);omega) hk p1 p2 p3 p4
 have hst:∀ f k:Nat,M.iM a b X E (f+1) k=if M.isOk (M.aU a b X E k)=true then (if 0<M.hL (M.hC a b) k (M.aU a b X E k) then some k else M.iM a b X E f (k+1)) else none:=fun _ _=>rfl
 obtain ⟨res,hres⟩:∃ r,M.iM a b X E 6 0=r:=⟨_,rfl⟩
 rw [hres];replace hres:=wM hres;replace PT:=wM PT;replace PR:=wM PR;replace hsp:=wM hsp;replace hst:=wM hst;clear h0 hg hp1 p1 p2 p3 p4;go_enter Tryz.func19,Tryz.ntmps19
 go_wp2_with (first | (go_at_call 62;(with_reducible refine (PT.out _).mono ?_);rintro e w4 ⟨rfl,hb4⟩;replace B:=d_ B hb4;replace C:=C.keep hb4;replace Q:=Q.keep hb4;have f_:=C.box.c0;have g_:=C.box.c1;(have ⟨q0,q1,q2⟩:=Q.aO)))
 go_loopw [6] (fun vi wq=>∃ j:Nat,j≤6∧vi=.int .i64 j∧Hid (M.iM a b X E (6 - j) j=res)∧Below w.heap.size w wq∧aH wq w.heap.size 25 #[.int .i64 a,.int .i64 b]∧aH wq (w.heap.size+1) 27 #[.int .i64 X,.int .i64 Y,.int .i64 E]) (fun vi _=>6 - (intOf vi).toNat)
 case atStart=>exact ⟨0,by omega,rfl,hres,B,C,Q⟩
 case round=>
 clear B C Q f_ g_ q0 q1 q2 hres PT;obtain ⟨j,hj,rfl,hres,B,C,Q⟩:=hrel
 by_cases hlt:j<6
 ·obtain ⟨m,hm⟩:∃ m,6 - j=m+1:=⟨5 - j,by omega⟩
  rw [hm] at hres;replace hres:=wM ((hst.out m j).symm.trans hres.out)
  have hm2:6 - (j+1)=m:=by omega
  replace PR:=PR.out j (by omega);replace hsp:=hsp.out j (by omega);generalize M.isOk (M.aU a b X E j)=ok,M.hH (M.hC a b) j (M.aU a b X E j)=hi,M.hL (M.hC a b) j (M.aU a b X E j)=lo at *;have f_:=C.box.c0;have g_:=C.box.c1;have ⟨q0,q1,q2⟩:=Q.aO;have hpos:=M.tA hsp;generalize M.pd hi=x4,M.pn hi=x3,M.pd lo=x2,M.pn lo=x1 at *
  cases ok with
  | false=>
   obtain rfl:=(hres.out.symm.trans (if_neg (by decide)))
   simp only [M.ek] at PR;replace PR:=wM PR
   go_wp2_with (first | (go_at_call 60;(with_reducible refine (PR.out _).mono ?_);rintro e w7 ⟨rfl,xC⟩;replace B:=d_ B xC;replace C:=C.keep xC;replace Q:=Q.keep xC;have f_:=C.box.c0;have g_:=C.box.c1;(have ⟨q0,q1,q2⟩:=Q.aO);have B0:=B;have zY:=B.size;replace B:=B.alloc zY (.cells #[.int .i64 0,.int .i64 0,.int .i64 0,.int .i64 0] 33);replace C:=C.alloc (.cells #[.int .i64 0,.int .i64 0,.int .i64 0,.int .i64 0] 33);replace Q:=Q.alloc (.cells #[.int .i64 0,.int .i64 0,.int .i64 0,.int .i64 0] 33);have V:=aH.new w7 #[.int .i64 0,.int .i64 0,.int .i64 0,.int .i64 0] 33;have f_:=C.box.c0;have g_:=C.box.c1;(have ⟨q0,q1,q2⟩:=Q.aO);(have ⟨v0,v1,v2,v3,_,_,_,_,_⟩:=V.aP)))
   go_ret2;exact ⟨rfl,B⟩
  | true=>
  replace hres:=wM ((if_pos rfl).symm.trans hres.out);simp only [M.cj] at PR;replace PR:=wM PR
  by_cases hp:0<lo
  ·obtain rfl:=hres.out.symm.trans (if_pos hp)
   have hx:0<x1:=of_decide_eq_true (hpos.trans (decide_eq_true hp));clear hres hpos
   go_wp2_with (first | (go_at_call 60;(with_reducible refine (PR.out _).mono ?_);rintro e w7 ⟨rfl,xC⟩;replace B:=d_ B xC;replace C:=C.keep xC;replace Q:=Q.keep xC;have f_:=C.box.c0;have g_:=C.box.c1;(have ⟨q0,q1,q2⟩:=Q.aO);have B0:=B;have zY:=B.size;replace B:=B.alloc zY (.cells #[.int .i64 x1,.int .i64 x2,.int .i64 x3,.int .i64 x4] 33);replace C:=C.alloc (.cells #[.int .i64 x1,.int .i64 x2,.int .i64 x3,.int .i64 x4] 33);replace Q:=Q.alloc (.cells #[.int .i64 x1,.int .i64 x2,.int .i64 x3,.int .i64 x4] 33);have V:=aH.new w7 #[.int .i64 x1,.int .i64 x2,.int .i64 x3,.int .i64 x4] 33;have f_:=C.box.c0;have g_:=C.box.c1;(have ⟨q0,q1,q2⟩:=Q.aO);(have ⟨v0,v1,v2,v3,_,_,_,_,_⟩:=V.aP)))
   go_ret2;exact ⟨rfl,B⟩
  replace hres:=wM ((if_neg hp).symm.trans hres.out);rw [←hm2] at hres;have hx:¬ 0<x1:=of_decide_eq_false (hpos.trans (decide_eq_false hp));clear hm hm2 hpos
  go_wp2_with (first | (go_at_call 60;(with_reducible refine (PR.out _).mono ?_);rintro e w7 ⟨rfl,xC⟩;replace B:=d_ B xC;replace C:=C.keep xC;replace Q:=Q.keep xC;have f_:=C.box.c0;have g_:=C.box.c1;(have ⟨q0,q1,q2⟩:=Q.aO);have B0:=B;have zY:=B.size;replace B:=B.alloc zY (.cells #[.int .i64 x1,.int .i64 x2,.int .i64 x3,.int .i64 x4] 33);replace C:=C.alloc (.cells #[.int .i64 x1,.int .i64 x2,.int .i64 x3,.int .i64 x4] 33);replace Q:=Q.alloc (.cells #[.int .i64 x1,.int .i64 x2,.int .i64 x3,.int .i64 x4] 33);have V:=aH.new w7 #[.int .i64 x1,.int .i64 x2,.int .i64 x3,.int .i64 x4] 33;have f_:=C.box.c0;have g_:=C.box.c1;(have ⟨q0,q1,q2⟩:=Q.aO);(have ⟨v0,v1,v2,v3,_,_,_,_,_⟩:=V.aP)))
  go_roundw
  case rel=>exact ⟨j+1,by omega,by go_num,hres,B,C,Q⟩
  case measure=>simp [intOf];omega
 obtain rfl:j=6:=by omega
 obtain rfl:res=none:=hres.out.symm;go_wp2;go_ret2;exact ⟨rfl,B⟩
namespace M
noncomputable def iL (a X Y E:Int):Nat→Nat→Option Nat
 | 0,_=>none
 | f+1,n=>match ye a X Y E n with
  | none=>none
  | some p=>if p.2.2=0 then some n else iL a X Y E f (n+1)
noncomputable def dc (a X Y E:Int):Option Nat:=iL a X Y E 12 1
theorem gj {a X Y E:Int} {f n:Nat} (h:ye a X Y E n=none):iL a X Y E (f+1) n=none:=by
 unfold iL;rw [h]
theorem fY {a X Y E:Int} {f n:Nat} {p:yp} (h:ye a X Y E n=some p):iL a X Y E (f+1) n=if p.2.2=0 then some n else iL a X Y E f (n+1):=by
 conv=>lhs;unfold iL
 rw [h]
theorem rq {a X Y E:Int} (n:Nat):mK a X Y E (n:Int)=ye a X Y E n:=by
 unfold mK F5;rw [if_neg (by omega)];rfl
end M
theorem pg (a b X Y E:Int) (w:World) (hg:M.good a b=true) (hp:M.bB a b X Y E=true) :
  Calls Tryz.prog 69 #[.agg #[.int .i64 a,.int .i64 b],.agg #[.int .i64 X,.int .i64 Y,.int .i64 E]] w fun e w'=>e=.returned (.tuple #[.int .i64 ((M.dc a X Y E).getD 0:Nat),.bool (M.dc a X Y E).isSome])∧Below w.heap.size w w':=by
 have PT:=fun (n:Nat) (hn:n≤12) W=>jn a b X Y E (n:Int) W hg hp (by omega) (by omega)
 simp only [M.rq] at PT;unfold M.dc
 obtain ⟨res,hres⟩:∃ r,M.iL a X Y E 12 1=r:=⟨_,rfl⟩
 rw [hres];replace hres:=wM hres;replace PT:=wM PT
 have hno:=wM fun (f n:Nat) (h:M.ye a X Y E n=none)=>M.gj (f:=f) h
 have hyes:=wM fun (f n:Nat) (p:M.yp) (h:M.ye a X Y E n=some p)=>M.fY (f:=f) h
 clear hg hp;obtain ⟨wc,hw3,C,Q,B⟩:=dL w #[.int .i64 a,.int .i64 b] 25 #[.int .i64 X,.int .i64 Y,.int .i64 E] 27;go_enter Tryz.func69,Tryz.ntmps69
 go_wp2
 go_loopw [6] (fun vi wq=>∃ j:Nat,1≤j∧j≤13∧vi=.int .i64 j∧Hid (M.iL a X Y E (13 - j) j=res)∧Below w.heap.size w wq∧aH wq w.heap.size 25 #[.int .i64 a,.int .i64 b]∧aH wq (w.heap.size+1) 27 #[.int .i64 X,.int .i64 Y,.int .i64 E]) (fun vi _=>13 - (intOf vi).toNat)
 case atStart=>exact ⟨1,by omega,by omega,rfl,hres,B,C,Q⟩
 case round=>
 clear B C Q hres;obtain ⟨j,hj1,hj,rfl,hres,B,C,Q⟩:=hrel
 by_cases hlt:j≤12
 ·obtain ⟨m,hm⟩:∃ m,13 - j=m+1:=⟨12 - j,by omega⟩
  have hm2:13 - (j+1)=m:=by omega
  rw [hm] at hres;replace PT:=PT.out j hlt;replace hno:=hno.out m j;replace hyes:=hyes.out m j;generalize M.ye a X Y E j=tj at *;have ⟨c0,c1,_,_,_⟩:=C.box;have ⟨q0,q1,q2⟩:=Q.aO
  cases tj with
  | none=>
   obtain rfl:=hres.out.symm.trans (hno rfl);clear hno hyes hres;replace PT:=wM (show ∀ W,Calls Tryz.prog 104 #[.agg #[.int .i64 a,.int .i64 b],.agg #[.int .i64 X,.int .i64 Y,.int .i64 E],.int .i64 (j:Int)] W fun e w'=>e=.returned (.tuple #[.agg #[.int .i64 0,.int .i64 0,.int .i64 0],.bool false])∧Below W.heap.size W w' from PT)
   go_wp2_with (go_at_call 104;(with_reducible refine (PT.out _).mono ?_);rintro e w4 ⟨rfl,hb4⟩;have yn:=(d_ B hb4).size;replace B:=(d_ B hb4).alloc yn (.cells #[.int .i64 0,.int .i64 0,.int .i64 0] 27))
   go_ret2;exact ⟨rfl,B⟩
  | some p=>
  obtain ⟨px,py,pe⟩:=p;have hst:=hres.out.symm.trans (hyes _ rfl);clear hno hyes hres
  dsimp only at hst
  replace PT:=wM (show ∀ W,Calls Tryz.prog 104 #[.agg #[.int .i64 a,.int .i64 b],.agg #[.int .i64 X,.int .i64 Y,.int .i64 E],.int .i64 (j:Int)] W fun e w'=>e=.returned (.tuple #[.agg #[.int .i64 px,.int .i64 py,.int .i64 pe],.bool true])∧Below W.heap.size W w' from PT)
  by_cases he:pe=0
  ·obtain rfl:=hst.trans (if_pos he)
   clear hst hm hm2;subst he
   go_wp2_with (go_at_call 104;(with_reducible refine (PT.out _).mono ?_);rintro e w4 ⟨rfl,hb4⟩;have yn:=(d_ B hb4).size;replace B:=(d_ B hb4).alloc yn (.cells #[.int .i64 px,.int .i64 py,.int .i64 0] 27);have V:=aH.new w4 #[.int .i64 px,.int .i64 py,.int .i64 0] 27;(have ⟨v0,v1,v2⟩:=V.aO))
   go_ret2;exact ⟨rfl,B⟩
  have hres:=wM (hst.trans (if_neg he)).symm;rw [←hm2] at hres;clear hst hm hm2
  have heb:(pe == 0)=false:=by simpa using he
  go_wp2_with (go_at_call 104;(with_reducible refine (PT.out _).mono ?_);rintro e w4 ⟨rfl,hb4⟩;have yn:=(d_ B hb4).size;replace B:=(d_ B hb4).alloc yn (.cells #[.int .i64 px,.int .i64 py,.int .i64 pe] 27);replace C:=(C.keep hb4).alloc (.cells #[.int .i64 px,.int .i64 py,.int .i64 pe] 27);replace Q:=(Q.keep hb4).alloc (.cells #[.int .i64 px,.int .i64 py,.int .i64 pe] 27);have V:=aH.new w4 #[.int .i64 px,.int .i64 py,.int .i64 pe] 27;(have ⟨v0,v1,v2⟩:=V.aO))
  go_roundw
  case rel=>exact ⟨j+1,by omega,by omega,by go_num,hres,B,C,Q⟩
  case measure=>simp [intOf];omega
 obtain rfl:j=13:=by omega
 obtain rfl:res=none:=hres.out.symm;go_wp2;go_ret2;exact ⟨rfl,B⟩
theorem jF (a b X Y E:Int) (w:World) (hg:M.good a b=true) (hp:M.bB a b X Y E=true) :
  Calls Tryz.prog 124 #[.agg #[.int .i64 a,.int .i64 b],.agg #[.int .i64 X,.int .i64 Y,.int .i64 E]] w fun e w'=>e=.returned (.tuple #[.int .i64 ((M.dc a X Y E).getD 0:Nat),.bool (M.dc a X Y E).isSome])∧Below w.heap.size w w':=by
 have PA:=fun (p:M.yp) (h:M.bB a b p.1 p.2.1 p.2.2=true) W=>lE a b p.1 p.2.1 p.2.2 X Y E W hg h hp
 have HT:=M.ks hg hp;unfold M.dc
 obtain ⟨res,hres⟩:∃ r,M.iL a X Y E 12 1=r:=⟨_,rfl⟩
 rw [hres];replace hres:=wM hres;replace PA:=wM PA;replace HT:=wM HT
 have hno:=wM fun (f n:Nat) (h:M.ye a X Y E n=none)=>M.gj (f:=f) h
 have hyes:=wM fun (f n:Nat) (p:M.yp) (h:M.ye a X Y E n=some p)=>M.fY (f:=f) h
 have hnext:=wM fun (n:Nat) (p:M.yp) (h:M.ye a X Y E n=some p)=>M.fR h
 clear hg hp;obtain ⟨wc,hw3,C,Q,B⟩:=dL w #[.int .i64 a,.int .i64 b] 25 #[.int .i64 X,.int .i64 Y,.int .i64 E] 27;have O:=aH.new wc #[.int .i64 0,.int .i64 0,.int .i64 0] 27;have G2:=B.size;have K2:=Q.lt;replace B:=B.alloc G2 (.cells #[.int .i64 0,.int .i64 0,.int .i64 0] 27);replace C:=C.alloc (.cells #[.int .i64 0,.int .i64 0,.int .i64 0] 27);replace Q:=Q.alloc (.cells #[.int .i64 0,.int .i64 0,.int .i64 0] 27);go_enter Tryz.func124,Tryz.ntmps124
 go_wp2;generalize wc.heap.size=ko at *
 go_loopw [7] (fun vi wq=>∃ (j:Nat) (p:M.yp),1≤j∧j≤13∧vi=.int .i64 j∧Hid (M.ye a X Y E (j - 1)=some p)∧Hid (M.iL a X Y E (13 - j) j=res)∧Below w.heap.size w wq∧aH wq ko 27 #[.int .i64 p.1,.int .i64 p.2.1,.int .i64 p.2.2]∧aH wq w.heap.size 25 #[.int .i64 a,.int .i64 b]∧aH wq (w.heap.size+1) 27 #[.int .i64 X,.int .i64 Y,.int .i64 E]) (fun vi _=>13 - (intOf vi).toNat)
 case atStart=>exact ⟨1,(0,0,0),by omega,by omega,rfl,wM rfl,hres,B,O,C,Q⟩
 case round=>
 clear B O C Q hres;obtain ⟨j,⟨px,py,pe⟩,hj1,hj,rfl,ht,hres,B,O,C,Q⟩:=hrel
 by_cases hlt:j≤12
 ·obtain ⟨m,hm⟩:∃ m,13 - j=m+1:=⟨12 - j,by omega⟩
  have hm2:13 - (j+1)=m:=by omega
  rw [hm] at hres;have hnx:=hnext.out _ _ ht.out;rw [show j - 1+1=j from by omega] at hnx;replace PA:=PA.out _ (HT.out _ _ ht.out);replace hno:=hno.out m j;replace hyes:=hyes.out m j
  have hj2:j+1 - 1=j:=by omega
  dsimp only at hnx PA O
  generalize M.dk a px py pe X Y E=o3,M.ew a px py pe X Y E=E3,M.fA a px py pe X Y E=Y3,M.ez a px py pe X Y E=X3 at *;have ⟨c0,c1,_,_,_⟩:=C.box;have ⟨q0,q1,q2⟩:=Q.aO;have ⟨o0,o1,o2⟩:=O.aO;replace PA:=wM PA;clear ht hnext
  cases o3 with
  | false=>
   obtain rfl:=hres.out.symm.trans (hno (hnx.trans (if_neg (by decide))));clear hno hyes hres hnx
   go_wp2_with (go_at_call 87;(with_reducible refine (PA.out _).mono ?_);rintro e w4 ⟨rfl,hb4⟩;have yn:=(d_ B hb4).size;replace B:=(d_ B hb4).alloc yn (.cells #[.int .i64 X3,.int .i64 Y3,.int .i64 E3] 27))
   go_ret2;exact ⟨rfl,B⟩
  | true=>
  replace hnx:=hnx.trans (if_pos rfl);have hst:=hres.out.symm.trans (hyes _ hnx)
  dsimp only at hst
  replace hnx:=wM hnx;clear hno hyes hres
  by_cases he:E3=0
  ·obtain rfl:=hst.trans (if_pos he)
   clear hst hm hm2;subst he
   go_wp2_with (go_at_call 87;(with_reducible refine (PA.out _).mono ?_);rintro e w4 ⟨rfl,hb4⟩;have yn:=(d_ B hb4).size;replace B:=(d_ B hb4).alloc yn (.cells #[.int .i64 X3,.int .i64 Y3,.int .i64 0] 27);have V:=aH.new w4 #[.int .i64 X3,.int .i64 Y3,.int .i64 0] 27;(have ⟨v0,v1,v2⟩:=V.aO))
   go_ret2;exact ⟨rfl,B⟩
  have hres:=wM (hst.trans (if_neg he)).symm;rw [←hm2] at hres;rw [←hj2] at hnx;clear hst hm hm2 hj2
  have heb:(E3 == 0)=false:=by simpa using he
  have hol:=O.lt
  go_wp2_with (go_at_call 87;(with_reducible refine (PA.out _).mono ?_);rintro e w4 ⟨rfl,hb4⟩;have yn:=(d_ B hb4).size;replace B:=(d_ B hb4).alloc yn (.cells #[.int .i64 X3,.int .i64 Y3,.int .i64 E3] 27);replace C:=(C.keep hb4).alloc (.cells #[.int .i64 X3,.int .i64 Y3,.int .i64 E3] 27);replace Q:=(Q.keep hb4).alloc (.cells #[.int .i64 X3,.int .i64 Y3,.int .i64 E3] 27);replace O:=(O.keep hb4).alloc (.cells #[.int .i64 X3,.int .i64 Y3,.int .i64 E3] 27);have V:=aH.new w4 #[.int .i64 X3,.int .i64 Y3,.int .i64 E3] 27;(have ⟨v0,v1,v2⟩:=V.aO);(have ⟨o0,o1,o2,z0,z1,z2⟩:=O.cG))
  go_roundw
  case rel=>exact ⟨j+1,(X3,Y3,E3),by omega,by omega,by go_num,hnx,hres,wO (wO (wO B (by dsimp only;omega) _) (by dsimp only;omega) _) (by dsimp only;omega) _,O.rZ _ _ _,((C.other (by omega) _).other (by omega) _).other (by omega) _,((Q.other (by omega) _).other (by omega) _).other (by omega) _⟩
  case measure=>simp [intOf];omega
 obtain rfl:j=13:=by omega
 obtain rfl:res=none:=hres.out.symm;go_wp2;go_ret2;exact ⟨rfl,B⟩
abbrev Pt:=Int × Int × Int
def fm (W:World) (v:Value) (l:List Pt):Prop:=∃ (a:Option Addr) (cap:Nat),v=.slice a l.length cap∧(l=[]∨∃ g,a=some ⟨g,0,none⟩∧jW W g l)
theorem fm.below {w w':World} {v:Value} {l:List Pt} (h:fm w v l) (hb:Below w.heap.size w w'):fm w' v l:=by
 obtain ⟨a,cap,e,h⟩:=h;refine ⟨a,cap,e,?_⟩
 rcases h with h | ⟨g,e,h⟩
 ·exact Or.inl h
 exact Or.inr ⟨g,e,h.below hb⟩
end
section
open Go.RowKit Go.Shelf
namespace M
theorem tr {n:Int} (h:fd n=true):0≤rt n∧rt n*rt n=n:=by
 unfold rt;rw [h];unfold fd at h;simp only [Bool.and_eq_true,decide_eq_true_eq,beq_iff_eq] at h;exact ⟨(fb h.1).1,h.2⟩
noncomputable def dm (a b x:Int):List yp:=
 if fd (cv a b x 1)=true then (if rt (cv a b x 1)=0 then [(x,0,1)] else if (aX a b).tmod (rt (cv a b x 1)*rt (cv a b x 1))=0 then [(x,-rt (cv a b x 1),1),(x,rt (cv a b x 1),1)] else []) else []
noncomputable def cL (a b:Int):Nat→List yp
 | 0=>[]
 | n+1=>cL a b n ++ dm a b ((n:Int) - 3000)
noncomputable def eK (a:Int) (p:yp):Bool:=(dc a p.1 p.2.1 p.2.2).isSome
noncomputable def gL (a b:Int):List yp:=(0,0,0) :: (cL a b 6001).filter (eK a)
theorem mb (a b x:Int):(dm a b x).length≤2:=by
 unfold dm
 split
 ·split
  ·simp
  split <;> simp
 simp
theorem fp (a b:Int):∀ n,(cL a b n).length≤2*n
 | 0=>wQ _
 | n+1=>by
  have h1:=fp a b n;have h2:=mb a b ((n:Int) - 3000)
  show (cL a b n ++ dm a b ((n:Int) - 3000)).length≤2*(n+1)
  rw [List.length_append];omega
theorem pD {a b x:Int} (h1:-10000≤x) (h2:x≤10000):∀ p ∈ dm a b x,bB a b p.1 p.2.1 p.2.2=true:=by
 unfold dm
 cases hs:fd (cv a b x 1) with
 | false=>intro p hp;simp at hp
 | true=>
 obtain ⟨r0,hr⟩:=tr hs
 have ok:∀ y,y*y=cv a b x 1→bB a b x y 1=true:=fun y hy=>by
  unfold bB;rw [if_neg (by decide)];simp only [Bool.and_eq_true,beq_iff_eq,decide_eq_true_eq];exact ⟨⟨⟨dC.2 ⟨h1,h2⟩,rfl⟩,by unfold M.gcd;simp⟩,hy⟩
 rw [if_pos rfl]
 split
 ·rename_i h0
  intro p hp;obtain rfl:=List.mem_singleton.1 hp;exact ok 0 (by rw [←hr,h0])
 split
 ·intro p hp
  simp only [List.mem_cons,List.not_mem_nil,or_false] at hp
  rcases hp with rfl | rfl
  ·exact ok _ (by rw [Int.neg_mul_neg];exact hr)
  exact ok _ hr
 intro p hp;simp at hp
theorem jY {a b:Int}:∀ n:Nat,n≤6001→∀ p ∈ cL a b n,bB a b p.1 p.2.1 p.2.2=true
 | 0,_,p,hp=>by simp [cL] at hp
 | n+1,hn,p,hp=>by
  rcases List.mem_append.1 (show p ∈ cL a b n ++ dm a b ((n:Int) - 3000) from hp) with h | h
  ·exact jY n (by omega) p h
  exact pD (by omega) (by omega) p h
theorem qc {a b x:Int} (ha1:-1000≤a) (ha2:a≤1000) (hb1:-10000≤b) (hb2:b≤10000) (hx1:-3000≤x) (hx2:x≤3000):cv a b x 1≤30000000000:=by
 have e:cv a b x 1=x*x*x+a*x+b:=by unfold cv;grind
 have s1:=M.aK (x:=x) (y:=x) (m:=3000) (n:=3000) (by omega) (by omega) (by omega) (by omega);have s2:=M.aK (x:=x*x) (y:=x) (m:=9000000) (n:=3000) (by omega) (by omega) (by omega) (by omega);have s3:=M.aK (x:=a) (y:=x) (m:=1000) (n:=3000) (by omega) (by omega) (by omega) (by omega);omega
end M
def CM:Rw.Enc (Int × Int × Int) where
 t:=27
 k:=3
 cells:=fun q=>[.int .i64 q.1,.int .i64 q.2.1,.int .i64 q.2.2]
 len:=fun _=>rfl
 one:=fun x u hu=>by simp only [List.mem_cons,List.not_mem_nil,or_false] at hu;rcases hu with rfl | rfl | rfl <;> rfl
 pos:=by decide
theorem uX:(Tryz.prog.info? 27).map (fun i=>(i.zero,i.size,i.bytes))=some (some (.agg #[.int .i64 0,.int .i64 0,.int .i64 0]),3,24):=by kernel_rfl
theorem me:Rw.Fits Tryz.prog CM 67:=⟨Tryz.underlying67,by
 obtain ⟨i0,hi,hz0,hz1,hz2⟩:=info_parts uX
 exact ⟨i0,_,hi,hz0,hz1,by omega,rfl⟩⟩
theorem Rw.Seen.ptx {w:World} {hi:Nat} {v:Value} {l:List Pt} (h:Rw.Seen CM w hi v l):fm w v l:=by
 obtain ⟨a,cap,rfl,h1,h2,h3⟩:=h;refine ⟨a,cap,rfl,?_⟩
 cases l with
 | nil=>exact Or.inl rfl
 | cons p l=>
 obtain ⟨g,x,e,-⟩:=h3 0 (by simp);refine Or.inr ⟨g,e,fun i y hy=>?_⟩;obtain ⟨g2,x2,e2,-,hx2,hc⟩:=h3 i (List.getElem?_eq_some_iff.1 hy).1;rw [e] at e2
 injection e2 with e2
 injection e2 with e2
 subst e2;rw [hy] at hx2;obtain rfl:=Option.some.inj hx2.out;exact ⟨hc 0 _ rfl,hc 1 _ rfl,hc 2 _ rfl⟩
theorem nj {w:World} {H:Nat} (x y z:Int) (hH:w.heap.size=H):Rw.From CM (w.alloc (.cells #[.int .i64 x,.int .i64 y,.int .i64 z] 27)) (some ⟨H,0,none⟩) [(x,y,z)]:=Rw.From.lit CM w (x,y,z) H hH
theorem sn {w:World} {H:Nat} (x y z x2 y2 z2:Int) (hH:w.heap.size=H):Rw.From CM (w.alloc (.cells #[.int .i64 x,.int .i64 y,.int .i64 z,.int .i64 x2,.int .i64 y2,.int .i64 z2] 27)) (some ⟨H,0,none⟩) [(x,y,z),(x2,y2,z2)]:=by
 subst hH;intro j u hu;refine ⟨_,rfl,?_⟩
 have hadd:∀ b i:Nat,(⟨b,0,none⟩:Addr).add i=⟨b,i,none⟩:=fun b i=>by unfold Addr.add;split <;> simp_all
 have hu2:[Value.int .i64 x,.int .i64 y,.int .i64 z,.int .i64 x2,.int .i64 y2,.int .i64 z2][j]?=some u:=hu;rw [hadd,World.cell?_alloc_at _ _ _ _ rfl]
 show (List.toArray _)[j]?=some u
 rw [List.getElem?_toArray];exact hu2
theorem fm.rE {W W':World} {r:Option Nat} {A:Option Addr} {n c:Nat} {l:List Pt} (h:fm W (.slice A n c) l) (hg:W.grownBy W' r) (hn:∀ k,r=some k→A≠some ⟨k,0,none⟩):fm W' (.slice A n c) l:=by
 obtain ⟨a,cap,e,h⟩:=h;cases e
 refine ⟨_,_,rfl,?_⟩
 rcases h with h | ⟨g,rfl,h⟩
 ·exact Or.inl h
 refine Or.inr ⟨g,rfl,fun k p hp=>?_⟩
 have hne:some g≠r:=fun e=>hn g e.symm rfl
 obtain ⟨h1,h2,h3⟩:=h k p hp;exact ⟨hg.cell h1 hne,hg.cell h2 hne,hg.cell h3 hne⟩
theorem f5 {B:Nat} {a w:World} (h:Below B a w) (n:Nat):Below B a (w.drewN n):=⟨h.os,h.tape,h.output,h.size,h.block⟩
theorem aH.rE {W W':World} {g:Nat} {r:Option Nat} {T:TypeId} {xs:Array Value} (h:aH W g T xs) (hg:W.grownBy W' r) (hn:∀ k,r=some k→g≠k):aH W' g T xs:=
 (hg.block g h.lt fun e=>by
  cases r with
  | none=>cases e
  | some k=>exact hn k rfl (Option.some.inj e)).trans h
theorem j0 (a b:Int) (w:World) (hg:M.good a b=true) :
  Calls Tryz.prog 123 #[.agg #[.int .i64 a,.int .i64 b]] w fun e w'=>∃ v',e=.returned v'∧Rw.Own CM w' w.heap.size v' (M.cL a b 6001)∧Below w.heap.size w w':=by
 obtain ⟨ha1,ha2,hb1,hb2⟩:=M.ar (M.ah hg)
 have PV:=wM fun (x:Int) (h1:-3000≤x) (h2:x≤3000) W=>eU a b x 1 W ha1 ha2 hb1 hb2 (by omega) (by omega) (by omega) (by omega)
 have HB:=wM fun (x:Int) (h1:-3000≤x) (h2:x≤3000)=>M.qc (a:=a) (b:=b) (x:=x) ha1 ha2 hb1 hb2 h1 h2
 have PC:=fun W=>j8 a b W (M.ah hg)
 have hdb:=nW (M.ah hg)
 have hlen:=wM fun n=>M.fp a b n
 have hat:∀ x,M.dm a b x=if M.fd (M.cv a b x 1)=true then (if M.rt (M.cv a b x 1)=0 then [(x,0,1)] else if (M.aX a b).tmod (M.rt (M.cv a b x 1)*M.rt (M.cv a b x 1))=0 then [(x,-M.rt (M.cv a b x 1),1),(x,M.rt (M.cv a b x 1),1)] else []) else []:=fun _=>rfl
 replace hat:=wM hat;clear hg ha1 ha2 hb1 hb2;generalize M.aX a b=dd at *;replace PC:=wM PC;obtain ⟨wc,hw3,C,B⟩:=iG w #[.int .i64 a,.int .i64 b] 25;have hlt0:=C.lt;go_enter Tryz.func123,Tryz.ntmps123
 go_wp2
 go_loopw [3,4] (fun vs vi wq=>∃ j:Nat,j≤6001∧vi=.int .i64 ((j:Int) - 3000)∧Hid (Rw.Own CM wq wc.heap.size vs (M.cL a b j))∧Below wc.heap.size wc wq) (fun _ vi _=>(3001 - intOf vi).toNat)
 case atStart=>exact ⟨0,by omega,rfl,wM (Rw.Own.nil CM _ _),wP _ _⟩
 case round=>
 obtain ⟨j,hj,rfl,hown,hbr⟩:=hrel;have BE:=hbr.size;obtain ⟨A,cap,rfl,-,-,-⟩:=hown.out.seen
 by_cases hlt:j<6001
 ·obtain ⟨x,hx⟩:∃ x:Int,x=(j:Int) - 3000:=⟨_,rfl⟩
  have hx1:-3000≤x:=by omega
  have hx2:x≤3000:=by omega
  have hnx:M.cL a b (j+1)=M.cL a b j ++ M.dm a b x:=by rw [hx];rfl
  have hxn:x+1=((j+1:Nat):Int) - 3000:=by omega
  have hlj:=hlen.out j;rw [hat.out x] at hnx;replace PV:=PV.out x hx1 hx2;replace HB:=HB.out x hx1 hx2;rw [←hx];replace hx:=wM hx;replace hxn:=wM hxn
  have hrt:=fun h=>M.tr (n:=M.cv a b x 1) h
  have hrn:=fun h=>M.rW (n:=M.cv a b x 1) h
  have PX:=fun W=>f8 (M.cv a b x 1) W (by omega)
  generalize M.cv a b x 1=c at *;generalize M.cL a b j=xs,M.fd c=s,M.rt c=r at *
  obtain ⟨ys,hys⟩:∃ l,M.cL a b (j+1)=l:=⟨_,rfl⟩
  rw [hys] at hnx;replace hys:=wM hys;have C2:=C.keep hbr;have ⟨k0,k1,_,_,_⟩:=C2.box;replace PV:=wM PV
  obtain ⟨N,hN⟩:∃ N,N=xs.length:=⟨_,rfl⟩
  rw [←hN] at hown hlj ⊢;replace hN:=wM hN
  cases s with
  | false=>
   obtain rfl:=hrn rfl;rw [if_neg (by decide),List.append_nil] at hnx;subst hnx;clear hrt hrn;replace PX:=wM PX
   go_wp2_with (first | (go_at_call 115;(with_reducible refine (PV.out _).mono ?_);rintro e w4 ⟨rfl,hb4⟩) | (go_at_call 144;(with_reducible refine (PX.out _).mono ?_);rintro e w5 ⟨rfl,rfl⟩))
   go_roundw
   case rel=>exact ⟨j+1,by omega,congrArg (Value.int .i64) hxn.out,wM (by rw [hys.out];exact hown.out.below hb4),hbr.trans (hb4.mono BE)⟩
   case measure=>simp [intOf];omega
  | true=>
  obtain ⟨r0,hrr⟩:=hrt rfl;rw [if_pos rfl] at hnx;clear hrt hrn;replace PX:=wM PX
  have hrb:r≤200000:=by
   rcases Int.lt_or_le 200000 r with q | q
   ·have:=Int.mul_le_mul (show 200001≤r by omega) (show 200001≤r by omega) (by decide) r0
    omega
   exact q
  by_cases h0:r=0
  ·subst h0
   rw [if_pos rfl] at hnx;clear hrr;replace hnx:=wM hnx
   go_wp2_with (first | (go_at_call 115;(with_reducible refine (PV.out _).mono ?_);rintro e w4 ⟨rfl,hb4⟩;have yn:=hb4.size) | (go_at_call 144;(with_reducible refine (PX.out _).mono ?_);rintro e w5 ⟨rfl,rfl⟩) | (at_builtin;refine Rw.push me (W:=wc) wc.heap.size [(x,0,1)] _ _ (some ⟨_,0,none⟩) 1 1 (by rfl) (by rfl) (.tmp 24) (.tmp 27) (by rfl) (by rfl) (by rfl) (nj x 0 1 (by simp)) ((hown.out.below hb4).alloc _) ((hbr.trans (hb4.mono BE)).alloc (by omega) _) (by simp;omega) (by have:=hN.out;simp;omega) ?_;intro v6 w6 hown6 hb6))
   go_roundw
   case rel=>exact ⟨j+1,by omega,congrArg (Value.int .i64) hxn.out,wM (by rw [hys.out,hnx.out];exact hown6),hb6⟩
   case measure=>simp [intOf];omega
  rw [if_neg h0] at hnx
  have Fw:1≤r:=by omega
  have hr0:(r == 0)=false:=by simpa using h0
  have hq1:1≤r*r:=Int.le_trans (by decide) (Int.mul_le_mul Fw Fw (by decide) r0);have hq2:=M.aK (x:=r) (y:=r) (m:=200000) (n:=200000) (by omega) (by omega) (by omega) (by omega)
  have hqz:¬ r*r=0:=by omega
  have H9:(r*r == 0)=false:=by simpa using hqz
  by_cases ht:dd.tmod (r*r)=0
  ·rw [if_pos ht] at hnx
   replace hnx:=wM hnx
   have htb:(dd.tmod (r*r) == 0)=true:=by simpa using ht
   clear hrr
   go_wp2_with (first | (go_at_call 115;(with_reducible refine (PV.out _).mono ?_);rintro e w4 ⟨rfl,hb4⟩;have yn:=hb4.size;have C3:=C2.keep hb4;(have ⟨l0,l1,_,_,_⟩:=C3.box)) | (go_at_call 144;(with_reducible refine (PX.out _).mono ?_);rintro e w5 ⟨rfl,rfl⟩) | (go_at_call 126;(with_reducible refine (PC.out _).mono ?_);rintro e w7 ⟨rfl,xC⟩;have zY:=xC.size) | (at_builtin;refine Rw.push me (W:=wc) wc.heap.size [(x,-r,1),(x,r,1)] _ _ (some ⟨_,0,none⟩) 2 2 (by rfl) (by rfl) (.tmp 37) (.tmp 45) (by rfl) (by rfl) (by rfl) (sn x (-r) 1 x r 1 (by simp)) (((hown.out.below hb4).below xC).alloc _) (((hbr.trans (hb4.mono BE)).trans (xC.mono (by omega))).alloc (by omega) _) (by simp;omega) (by have:=hN.out;simp;omega) ?_;intro v6 w6 hown6 hb6))
   go_roundw
   case rel=>exact ⟨j+1,by omega,congrArg (Value.int .i64) hxn.out,wM (by rw [hys.out,hnx.out];exact hown6),hb6⟩
   case measure=>simp [intOf];omega
  rw [if_neg ht,List.append_nil] at hnx;subst hnx
  have htb:(dd.tmod (r*r) == 0)=false:=by simpa using ht
  clear hrr
  go_wp2_with (first | (go_at_call 115;(with_reducible refine (PV.out _).mono ?_);rintro e w4 ⟨rfl,hb4⟩;have yn:=hb4.size;have C3:=C2.keep hb4;(have ⟨l0,l1,_,_,_⟩:=C3.box)) | (go_at_call 144;(with_reducible refine (PX.out _).mono ?_);rintro e w5 ⟨rfl,rfl⟩) | (go_at_call 126;(with_reducible refine (PC.out _).mono ?_);rintro e w7 ⟨rfl,xC⟩;have zY:=xC.size))
  go_roundw
  case rel=>exact ⟨j+1,by omega,congrArg (Value.int .i64) hxn.out,wM (by rw [hys.out];exact (hown.out.below hb4).below xC),(hbr.trans (hb4.mono BE)).trans (xC.mono (by omega))⟩
  case measure=>simp [intOf];omega
 obtain rfl:j=6001:=by omega
 go_wp2;go_ret;exact ⟨_,rfl,hown.out.down B.size,d_ B hbr⟩
theorem iO (a b:Int) (w:World) (hg:M.good a b=true) :
  Calls Tryz.prog 68 #[.agg #[.int .i64 a,.int .i64 b]] w fun e w'=>∃ v',e=.returned v'∧fm w' v' (M.gL a b)∧(M.gL a b).length≤12100∧Below w.heap.size w w':=by
 have PK:=wM fun W=>j0 a b W hg
 have PO:=wM fun (p:M.yp) (h:M.bB a b p.1 p.2.1 p.2.2=true) W=>jF a b p.1 p.2.1 p.2.2 W hg h
 have hall:=M.jY (a:=a) (b:=b) 6001 (wQ _);have hlen:=M.fp a b 6001;have hto:M.gL a b=(0,0,0) :: (M.cL a b 6001).filter (M.eK a):=rfl;rw [hto]
 have hti:∀ p:M.yp,M.eK a p=(M.dc a p.1 p.2.1 p.2.2).isSome:=fun _=>rfl
 generalize M.cL a b 6001=cs at *;replace hti:=wM hti;replace hall:=wM hall;clear hg hto;obtain ⟨wc,hw3,C,B⟩:=iG w #[.int .i64 a,.int .i64 b] 25;have hC0:=C.lt;have hown:Rw.Own CM (wc.alloc (.cells #[.int .i64 0,.int .i64 0,.int .i64 0] 27)) wc.heap.size (.slice (some ⟨wc.heap.size,0,none⟩) 1 1) [(0,0,0)]:=Rw.Own.vZ CM (0,0,0) wc wc.heap.size (wQ _);have hbl:=bA wc (.cells #[.int .i64 0,.int .i64 0,.int .i64 0] 27);have C1:=C.keep hbl;have ⟨k0,k1,_,_,_⟩:=C1.box;go_enter Tryz.func68,Tryz.ntmps68
 have hz1:=hbl.size
 have hl1:wc.heap.size<(wc.alloc (.cells #[.int .i64 0,.int .i64 0,.int .i64 0] 27)).heap.size:=by rw [wN];omega
 generalize hw1:wc.alloc (.cells #[.int .i64 0,.int .i64 0,.int .i64 0] 27)=w1 at *
 go_wp2_with (go_at_call 123;(with_reducible refine (PK.out _).mono ?_);rintro e w4 ⟨v4,rfl,hc4,hb4⟩;(obtain ⟨A4,cap4,rfl,-,-,-⟩:=hc4.seen))
 have hpv:=hc4.seen.ptx;have Dn:=hc4.lt;have yn:=hb4.size
 obtain ⟨N,hN⟩:∃ N,N=cs.length:=⟨_,rfl⟩
 rw [←hN] at hpv hlen ⊢;replace hN:=wM hN;replace hown:=hown.below hb4;replace B:=(d_ B hbl).trans (hb4.mono (by have:=B.size;omega));replace C:=(C.keep hbl).keep hb4
 have hap:∀ k,A4=some ⟨k,0,none⟩→wc.heap.size<k∧k<w4.heap.size:=fun k hk=>by
  subst hk;have:=Dn k rfl;omega
 clear Dn hw1 k0 k1 PK hbl C1 hw3;have Ba:=B.size;replace hap:=wM hap
 go_loopw [3,13] (fun vs vi wq=>∃ i:Nat,i≤N∧vi=.int .i64 i∧Hid (Rw.Own CM wq wc.heap.size vs ((0,0,0) :: (cs.take i).filter (M.eK a)))∧Hid (∀ k,vs.ownBlock=some k→A4≠some ⟨k,0,none⟩)∧Hid (fm wq (.slice A4 N cap4) cs)∧w4.heap.size≤wq.heap.size∧Below w.heap.size w wq∧aH wq w.heap.size 25 #[.int .i64 a,.int .i64 b]) (fun _ vi _=>N - (intOf vi).toNat)
 case atStart=>exact ⟨0,by omega,rfl,wM hown,wM (fun k hk e=>by have h1:=hap.out k e;have h2:wc.heap.size=k:=Option.some.inj hk;omega),wM hpv,wQ _,B,C⟩
 case round=>
 clear B C hown hpv;obtain ⟨i,hi,rfl,hown,hne,hpv,G3,B,C⟩:=hrel
 by_cases hlt:i<N
 ·obtain ⟨p,hpi⟩:∃ p,cs[i]?=some p:=⟨_,List.getElem?_eq_getElem (by have:=hN.out;omega)⟩
  obtain ⟨g,rfl,hpa⟩:∃ g,A4=some ⟨g,0,none⟩∧jW wr g cs:=by
   obtain ⟨A,cap,e,h⟩:=hpv.out;cases e
   rcases h with h | h
   ·rw [h] at hpi;cases hpi
   exact h
  obtain ⟨d0,d1,d2⟩:=hpa i p hpi;have hgb:=hap.out g rfl;replace PO:=PO.out p (hall.out p (List.mem_of_getElem? hpi));have hq:=hti.out p
  have htk:(cs.take (i+1)).filter (M.eK a)=(cs.take i).filter (M.eK a) ++ (if M.eK a p=true then [p] else []):=by
   rw [List.take_add_one,hpi,List.filter_append];simp only [Option.toList_some,List.filter_cons,List.filter_nil]
  obtain ⟨X,Y,E⟩:=p
  dsimp only at PO d0 d1 d2 hq
  rw [←hq] at PO;clear hq hpi hpa;generalize (M.dc a X Y E).getD 0=od,M.eK a (X,Y,E)=tq at *;have BE:=B.size
  have hfl:((0,0,0) :: (cs.take i).filter (M.eK a)).length≤12100:=by
   have:=List.length_filter_le (M.eK a) (cs.take i);rw [List.length_cons]
   have h2:(cs.take i).length≤cs.length:=by rw [List.length_take];omega
   have:=hN.out;omega
  replace hpv:=hpv.out;have B2:=B.alloc BE (.cells #[.int .i64 X,.int .i64 Y,.int .i64 E] 27);have V:=aH.new wr #[.int .i64 X,.int .i64 Y,.int .i64 E] 27;have C2:=C.alloc (.cells #[.int .i64 X,.int .i64 Y,.int .i64 E] 27);have hown2:=hown.out.alloc (.cells #[.int .i64 X,.int .i64 Y,.int .i64 E] 27);have hpv2:=hpv.below (bA wr (.cells #[.int .i64 X,.int .i64 Y,.int .i64 E] 27))
  have hz2:wr.heap.size≤(wr.alloc (.cells #[.int .i64 X,.int .i64 Y,.int .i64 E] 27)).heap.size:=by rw [wN];omega
  have ⟨k0,k1,_,_,_⟩:=C2.box;have ⟨v0,v1,v2⟩:=V.aO;have hvw:=V.lt
  have hie:(i:Int)<(N:Int):=by omega
  replace PO:=wM PO;replace hpv2:=wM hpv2;replace hown2:=wM hown2;replace htk:=wM htk
  obtain ⟨ys,hys⟩:∃ l,(0,0,0) :: (cs.take i).filter (M.eK a)=l:=⟨_,rfl⟩
  rw [hys] at hown hown2 hfl;replace hys:=wM hys;clear hpv
  cases tq with
  | false=>
   go_wp2_with (go_at_call 124;(with_reducible refine (PO.out _).mono ?_);rintro e w5 ⟨rfl,hb5⟩)
   go_roundw
   case rel=>exact ⟨i+1,by omega,by go_num,wM (by rw [htk.out,if_neg (by decide),List.append_nil,hys.out];exact hown2.out.below hb5),hne,wM (hpv2.out.below hb5),by have:=hb5.size;omega,d_ B2 hb5,C2.keep hb5⟩
   case measure=>simp [intOf];omega
  | true=>
  obtain ⟨Av,cv,rfl,-,-,-⟩:=hown.out.seen
  obtain ⟨M0,hM0⟩:∃ m,m=ys.length:=⟨_,rfl⟩
  rw [←hM0] at hown hown2 hfl hne ⊢;replace hM0:=wM hM0
  go_wp2_with (first | (go_at_call 124;(with_reducible refine (PO.out _).mono ?_);rintro e w5 ⟨rfl,hb5⟩;have hz5:=hb5.size;have V2:=V.keep hb5;(have ⟨u0,u1,u2⟩:=V2.aO)) | (at_builtin;refine Rw.tl me wc.heap.size [(X,Y,E)] ys _ ⟨_,0,none⟩ 1 1 (by rfl) (by rfl) (.tmp 24) (.tmp 26) (by rfl) (by rfl) (by rfl) (nj X Y E (by simp)) ((hown2.out.below hb5).alloc _) (by simp;omega) (by have:=hM0.out;simp;omega) ?_;intro v6 w6 hown6 CK Gq))
  have IF:=CK.size;rw [wN] at IF;have hfr:=hown6
  go_roundw
  case rel=>
   refine ⟨i+1,by omega,by go_num,wM (by rw [htk.out,if_pos trivial,←List.cons_append,hys.out];exact hown6),wM ?_,wM (((hpv2.out.below hb5).below (bA _ _)).rE CK ?_),by omega,?_,((C2.keep hb5).alloc _).rE CK ?_⟩
   ·intro k hk e
    rcases Gq with h | h
    ·exact hne.out k (by rw [←h];exact hk) e
    rw [h] at hk;have h1:=Option.some.inj hk;rw [wN] at h1
    have h2:g=k:=by cases e;rfl
    omega
   ·exact fun k hk=>hne.out k hk
   ·exact Below.grown ((d_ B2 hb5).alloc (by omega) _) CK (by rw [wN];omega) (fun k hk=>by have:=(hown2.out.lt k hk).1;omega)
   exact fun k hk=>by have:=(hown2.out.lt k hk).1;omega
  case measure=>simp [intOf];omega
 obtain rfl:i=N:=by omega
 have hfull:cs.take i=cs:=by rw [hN.out,List.take_length]
 rw [hfull] at hown;go_wp2;go_ret;refine ⟨_,rfl,hown.out.seen.ptx,?_,B⟩;have:=List.length_filter_le (M.eK a) cs;have:=hN.out;omega
theorem pL (X Y E:Int) (v:Value) (l:List M.yp) (w:World) (hv:fm w v l) (hl:l.length≤12100) :
  Calls Tryz.prog 122 #[v,.agg #[.int .i64 X,.int .i64 Y,.int .i64 E]] w fun e w'=>∃ r:Int,e=.returned (.int .i64 r)∧decide (0≤r)=decide ((X,Y,E) ∈ l)∧Below w.heap.size w w':=by
 obtain ⟨A,cap,rfl,hv⟩:=hv
 obtain ⟨N,hN⟩:∃ N,N=l.length:=⟨_,rfl⟩
 rw [←hN] at hl ⊢;replace hN:=wM hN;replace hv:=wM hv;obtain ⟨wc,hw3,Q,B⟩:=iG w #[.int .i64 X,.int .i64 Y,.int .i64 E] 27;go_enter Tryz.func122,Tryz.ntmps122
 go_wp2
 go_loopw [8] (fun vi wq=>∃ i:Nat,i≤N∧vi=.int .i64 i∧Hid (∀ p ∈ l.take i,(X,Y,E)≠p)∧Below w.heap.size w wq∧aH wq w.heap.size 27 #[.int .i64 X,.int .i64 Y,.int .i64 E]) (fun vi _=>N - (intOf vi).toNat)
 case atStart=>exact ⟨0,by omega,rfl,wM (fun p hp=>by simp at hp),B,Q⟩
 case round=>
 clear B Q;obtain ⟨i,hi,rfl,hno,B,Q⟩:=hrel
 by_cases hlt:i<N
 ·obtain ⟨p,hpi⟩:∃ p,l[i]?=some p:=⟨_,List.getElem?_eq_getElem (by have:=hN.out;omega)⟩
  obtain ⟨g,rfl,hpa⟩:∃ g,A=some ⟨g,0,none⟩∧jW w g l:=by
   rcases hv.out with h | h
   ·rw [h] at hpi;cases hpi
   exact h
  have hmem:=List.mem_of_getElem? hpi;obtain ⟨d0,d1,d2⟩:=hpa.below B i p hpi
  have hie:(i:Int)<(N:Int):=by omega
  have ⟨q0,q1,q2⟩:=Q.aO
  have htk:l.take (i+1)=l.take i ++ [p]:=by rw [List.take_add_one,hpi];rfl
  clear hpa hpi
  by_cases he:(X,Y,E)=p
  ·subst he
   clear htk
   dsimp only at d0 d1 d2
   replace hmem:=wM hmem
   go_wp2_with fail
   go_quiet (fail)
   go_wp2;go_ret;exact ⟨_,rfl,by rw [decide_eq_true hmem.out];exact decide_eq_true (by omega),f5 B _⟩
  have hnx:Hid (∀ q ∈ l.take (i+1),(X,Y,E)≠q):=wM (fun q hq=>by
   rw [htk] at hq
   rcases List.mem_append.1 hq with h | h
   ·exact hno.out q h
   rw [List.mem_singleton.1 h];exact he)
  obtain ⟨x,y,z⟩:=p
  dsimp only at d0 d1 d2
  have hcase:¬ (X=x∧Y=y∧E=z):=fun ⟨h1,h2,h3⟩=>he (by rw [h1,h2,h3])
  clear hmem htk he
  by_cases h1:X=x
  ·by_cases h2:Y=y
   ·have h3:¬ E=z:=fun h=>hcase ⟨h1,h2,h⟩
    clear hcase
    go_wp2_with fail
    go_quiet (fail)
    go_wp2
    go_roundw
    case rel=>exact ⟨i+1,by omega,by go_num,hnx,f5 B _,Q⟩
    case measure=>simp [intOf];omega
   clear hcase
   go_wp2_with fail
   go_quiet (fail)
   go_wp2
   go_roundw
   case rel=>exact ⟨i+1,by omega,by go_num,hnx,f5 B _,Q⟩
   case measure=>simp [intOf];omega
  clear hcase
  go_wp2_with fail
  go_quiet (fail)
  go_wp2
  go_roundw
  case rel=>exact ⟨i+1,by omega,by go_num,hnx,f5 B _,Q⟩
  case measure=>simp [intOf];omega
 obtain rfl:i=N:=by omega
 have hall:(X,Y,E) ∉ l:=fun h=>hno.out _ (by rw [hN.out,List.take_length];exact h) rfl
 replace hall:=wM hall;go_wp2;go_ret;exact ⟨_,rfl,by rw [decide_eq_false hall.out];decide,B⟩
theorem j7 (X Y E:Int) (v:Value) (l:List M.yp) (w:World) (hv:fm w v l) (hl:l.length≤12100) :
  Calls Tryz.prog 67 #[v,.agg #[.int .i64 X,.int .i64 Y,.int .i64 E]] w fun e w'=>e=.returned (.bool (decide ((X,Y,E) ∈ l)))∧Below w.heap.size w w':=by
 have PI:=wM fun W (h:fm W v l)=>pL X Y E v l W h hl
 obtain ⟨wc,hw3,Q,B⟩:=iG w #[.int .i64 X,.int .i64 Y,.int .i64 E] 27;have hv2:=wM (hv.below B);have ⟨q0,q1,q2⟩:=Q.aO;obtain ⟨A,cap,rfl,-⟩:=hv;generalize l.length=n at *;go_enter Tryz.func67,Tryz.ntmps67
 go_wp2_with (go_at_call 122;(refine (PI.out _ hv2.out).mono ?_);rintro e w4 ⟨r,rfl,hr,hb4⟩;replace B:=d_ B hb4)
 go_ret;exact ⟨rfl,B⟩
end
end Go.Proofs.YtggekfbfechonaaGreat
