/-
  Joined texts: contracts and plain lemmas.
-/
import Derived.Test.YtggekfbfechonaaGreatU1
import Derived.Test.YtggekfbfechonaaGreatU11
import Derived.Test.YtggekfbfechonaaGreatU15
import Derived.Test.YtggekfbfechonaaGreatU16
set_option linter.unusedSimpArgs false
set_option linter.unusedVariables false
set_option maxRecDepth 100000
set_option maxHeartbeats 8000000
namespace Go.Proofs.YtggekfbfechonaaGreat
section
namespace M
theorem oc {a b X Y E:Int} (hg:good a b=true) (hp:bB a b X Y E=true):∀ n p,ye a X Y E n=some p→dZ p.1 p.2.1 p.2.2=wT.mul a n (dZ X Y E)
 | 0,p,h=>by
  cases h
  exact mu 0 0
 | n+1,p,h=>by
  cases hq:ye a X Y E n with
  | none=>
   have:=gK hq (n+1) (by omega);rw [this] at h;cases h
  | some q=>
  rw [fR hq] at h
  split at h
  ·rename_i hk
   cases h
   have ih:=oc hg hp n q hq;have:=sR hg (ks hg hp n q hq) hp hk;rw [ih] at this;exact this
  cases h
theorem n5 {a X Y E:Int}:∀ (f n k:Nat),iL a X Y E f n=some k→n≤k∧k<n+f∧∃ p,ye a X Y E k=some p∧p.2.2=0
 | 0,n,k,h=>by cases h
 | f+1,n,k,h=>by
  cases ht:ye a X Y E n with
  | none=>rw [gj ht] at h;cases h
  | some p=>
  rw [fY ht] at h
  split at h
  ·rename_i he
   cases h
   exact ⟨wQ _,by omega,p,ht,he⟩
  obtain ⟨h1,h2,h3⟩:=n5 f (n+1) k h;exact ⟨by omega,by omega,h3⟩
theorem oH {a b X Y E:Int} (hg:good a b=true) (hp:bB a b X Y E=true) (h:(dc a X Y E).isSome=true):∃ n:Nat,1≤n∧n≤12∧wT.mul a n (dZ X Y E)=.O:=by
 obtain ⟨n,hn⟩:=Option.isSome_iff_exists.1 h;obtain ⟨h1,h2,p,h3,h4⟩:=n5 12 1 n hn;refine ⟨n,h1,by omega,?_⟩;rw [←oc hg hp n p h3,h4];exact mu _ _
theorem lJ {a b:Int} {p:yp}:∀ (m j:Nat),j<m→p ∈ dm a b ((j:Int) - 3000)→p ∈ cL a b m
 | 0,j,h,_=>by omega
 | m+1,j,h,hp=>by
  refine List.mem_append.2 ?_
  by_cases e:j=m
  ·subst e;exact Or.inr hp
  exact Or.inl (lJ m j (by omega) hp)
theorem qa {a b X Y:Int} (ha1:-1000≤a) (ha2:a≤1000) (hb1:-10000≤b) (hb2:b≤10000) (h:Y*Y=X*X*X+a*X+b) (hd:Y*Y≤10000000000):-3000≤X∧X≤3000:=by
 have Ap:0≤Y*Y:=by rcases Int.le_total 0 Y with q | q;exact Int.mul_nonneg q q;exact Int.mul_nonneg_of_nonpos_of_nonpos q q
 have key:∀ t:Int,3001≤t→27000000000≤t*t*t - 1000*t - 10000:=fun t ht=>by
  have h1:9000000≤t*t:=Int.le_trans (by decide) (Int.mul_le_mul (show 3000≤t by omega) (show 3000≤t by omega) (by decide) (by omega));have h2:=Int.mul_le_mul (show 8999000≤t*t - 1000 by omega) ht (by decide) (by omega)
  have e:t*t*t - 1000*t=(t*t - 1000)*t:=by grind
  omega
 constructor
 ·rcases Int.lt_or_le X (-3000) with q | q
  ·have h1:=key (-X) (by omega)
   have e:-X*-X*-X=-(X*X*X):=by grind
   have h2:a*X≤1000*-X:=by
    have h5:a*X=(-a)*(-X):=by rw [Int.neg_mul_neg]
    rw [h5];exact Int.mul_le_mul_of_nonneg_right (by omega) (by omega)
   omega
  exact q
 rcases Int.lt_or_le 3000 X with q | q
 ·have h1:=key X (by omega)
  have h2:-(1000*X)≤a*X:=by
   have h6:=Int.mul_le_mul_of_nonneg_right (show -1000≤a by omega) (show 0≤X by omega);omega
  omega
 exact q
theorem rv {a b X Y E:Int} (hg:good a b=true) (hp:bB a b X Y E=true) (hE:E≠0) (h:(dc a X Y E).isSome=true):(X,Y,E) ∈ cL a b 6001:=by
 obtain ⟨n,hn1,hn2,hm⟩:=oH hg hp h;have hd:=jd hg;have hon:=fa hp;obtain ⟨hx,hz⟩:=rP hp hE;obtain ⟨hX,hE1,hc,hY⟩:=fK hp hE;obtain ⟨ha1,ha2,hb1,hb2⟩:=ar (ah hg)
 have hO:dZ X Y E≠.O:=fun e=>by rw [e] at hz;have:E*E≠0:=Int.mul_ne_zero hE hE;exact this hz.symm
 have h1:wT.pz (dZ X Y E)=1:=(wT.oi hd n hn1 hn2 _ hon hm).resolve_left hO
 have hE2:E=1:=by
  rw [hz] at h1
  rcases Int.lt_or_le 1 E with q | q
  ·have:=Int.mul_le_mul (show 2≤E by omega) (show 2≤E by omega) (by decide) (by omega)
   omega
  omega
 subst hE2
 have hcv:Y*Y=X*X*X+a*X+b:=by rw [hY];unfold cv;grind
 have hdv:Y=0∨Y*Y ∣ aX a b:=by
  obtain ⟨d,hd0,-,e1,e2⟩:=wT.lO hd hon;rw [hx,h1] at e1 e2
  have hm2:wT.mul a n (wT.add a (dZ X Y 1) (dZ X Y 1))=.O:=by
   rw [wT.kI (wT.cg hd) hon,wT.d6 (wT.cg hd) hon,hm];rfl
  rcases wT.oi hd n hn1 hn2 _ (wT.dM (wT.cg hd) hon hon) hm2 with q | q
  ·rw [q] at e2
   have e3:Wh.an a b X 1=0:=by rw [e2];show d*0=0;omega
   left
   have e4:Wh.an a b X 1=4*(Y*Y):=by unfold Wh.an;rw [hcv];grind
   have e5:Y*Y=0:=by omega
   rcases Int.mul_eq_zero.1 e5 with q | q <;> exact q
  rw [q,Int.mul_one] at e2;exact Or.inr (wT.wL hcv e1 e2)
 have hbd:=nW (ah hg)
 have hyb:Y*Y≤10000000000:=by
  rcases hdv with q | q
  ·rw [q];decide
  have h2:=Int.natAbs_dvd_natAbs.2 q;have h3:=Nat.le_of_dvd (by omega) h2
  have Ap:0≤Y*Y:=by rcases Int.le_total 0 Y with q | q;exact Int.mul_nonneg q q;exact Int.mul_nonneg_of_nonpos_of_nonpos q q
  omega
 obtain ⟨x1,x2⟩:=qa ha1 ha2 hb1 hb2 hcv hyb;refine lJ 6001 (X+3000).toNat (by omega) ?_
 have hxe:((X+3000).toNat:Int) - 3000=X:=by omega
 rw [hxe];unfold dm;have Li:fd (cv a b X 1)=true:=gF hY;rw [if_pos Li]
 have hrt:rt (cv a b X 1)=Y∨rt (cv a b X 1)=-Y:=by
  rcases Int.le_total 0 Y with q | q
  ·exact Or.inl (kY q hY)
  exact Or.inr (kY (by omega) (by rw [Int.neg_mul_neg];exact hY))
 by_cases h0:Y=0
 ·have:rt (cv a b X 1)=0:=by rcases hrt with q | q <;> omega
  rw [if_pos this,h0];exact List.mem_singleton.2 rfl
 have hne:rt (cv a b X 1)≠0:=by rcases hrt with q | q <;> omega
 have hrr:rt (cv a b X 1)*rt (cv a b X 1)=Y*Y:=by
  rcases hrt with q | q <;> rw [q]
  exact Int.neg_mul_neg _ _
 rw [if_neg hne,if_pos (by rw [hrr];exact Int.tmod_eq_zero_of_dvd (hdv.resolve_left h0))];simp only [List.mem_cons,Prod.mk.injEq,true_and,and_true,List.not_mem_nil,or_false]
 rcases hrt with q | q <;> omega
theorem vf (a:Int):(dc a 0 0 0).isSome=true:=by
 have h0:ye a 0 0 0 0=some (0,0,0):=rfl
 have h1:ye a 0 0 0 1=some (0,0,0):=by
  rw [fR h0];rfl
 unfold dc;rw [fY h1];rfl
theorem ry {a b X Y E:Int} (hg:good a b=true) (hp:bB a b X Y E=true):decide ((X,Y,E) ∈ gL a b)=(dc a X Y E).isSome:=by
 unfold gL
 cases h:(dc a X Y E).isSome with
 | true=>
  refine decide_eq_true ?_
  by_cases hE:E=0
  ·obtain ⟨rfl,rfl⟩:=ui hp hE
   subst hE;exact List.mem_cons_self
  exact List.mem_cons_of_mem _ (List.mem_filter.2 ⟨rv hg hp hE h,h⟩)
 | false=>
 refine decide_eq_false fun hm=>?_
 rcases List.mem_cons.1 hm with q | q
 ·cases q
  rw [vf] at h;cases h
 have:=(List.mem_filter.1 q).2;unfold eK at this;rw [h] at this;cases this
theorem oh {a b X Y E:Int} (hg:good a b=true) (hp:bB a b X Y E=true) (h:(dc a X Y E).isSome=true) (n:Nat) (ho:isOk (aU a b X E n)=true):hL (hC a b) n (aU a b X E n)≤0:=by
 obtain ⟨k,hk1,-,hm⟩:=oH hg hp h;have hd:=jd hg;have h1:=kN hd hp n ho;have h2:=wT.uW hd (fa hp) (by omega) hm;have h3:yo (fun _=>0) 0 0:=ky ⟨0,fun n=>by omega⟩;exact h1.meet h3 h2
end M
namespace M
theorem th {a b X E:Int} {n:Nat}:∀ N,n≤N→hL (hC a b) n (aU a b X E n)≤bL a b X E N
 | 0,h=>by
  obtain rfl:n=0:=by omega
  exact Int.le_refl _
 | N+1,h=>by
  show _≤max (bL a b X E N) (hL (hC a b) (N+1) (aU a b X E (N+1)))
  by_cases e:n=N+1
  ·rw [←e];omega
  have:=th (a:=a) (b:=b) (X:=X) (E:=E) N (show n≤N by omega);omega
theorem tg {a b X E:Int} {n:Nat}:∀ N,n≤N→bH a b X E N≤hH (hC a b) n (aU a b X E n)
 | 0,h=>by
  obtain rfl:n=0:=by omega
  exact Int.le_refl _
 | N+1,h=>by
  show min (bH a b X E N) (hH (hC a b) (N+1) (aU a b X E (N+1)))≤_
  by_cases e:n=N+1
  ·rw [←e];omega
  have:=tg (a:=a) (b:=b) (X:=X) (E:=E) N (show n≤N by omega);omega
theorem vU {C n:Nat} {o:Out} (hn:n≤5):0≤hL C n o:=by
 have hp:=l6 n hn
 cases o with
 | val x z=>exact Int.ediv_nonneg (Int.mul_nonneg (by omega) (by decide)) (by omega)
 | inf=>exact Int.le_refl _
 | bad=>exact Int.le_refl _
theorem uO {a b X Y E n:Int} {p:Int × Int} (e:du a b X Y E n=some p):∃ k:Nat,n=k∧k≤5∧cZ a b X Y E=true∧isOk (aU a b X E k)=true∧p=(hL (hC a b) k (aU a b X E k),hH (hC a b) k (aU a b X E k)):=by
 unfold du gd at e
 split at e
 ·rename_i hc
  rw [Bool.and_eq_true] at hc;obtain ⟨h1,h2⟩:=dC.1 hc.2;unfold pK at e
  split at e
  ·rename_i ho
   cases e
   exact ⟨n.toNat,by omega,by omega,hc.1,ho,rfl⟩
  cases e
 cases e
theorem q7 {a b X Y E:Int} {k:Nat} (hk:k≤5) (hpt:cZ a b X Y E=true) (ho:isOk (aU a b X E k)=true):du a b X Y E k=some (hL (hC a b) k (aU a b X E k),hH (hC a b) k (aU a b X E k)):=by
 unfold du gd;rw [hpt,dC.2 ⟨by omega,by omega⟩,Bool.and_self,if_pos rfl];unfold pK;rw [Int.toNat_natCast,if_pos ho]
theorem oj {a b X Y E:Int} (hpt:cZ a b X Y E=true):decide ((X,Y,E) ∈ gL a b)=(dc a X Y E).isSome:=by
 obtain ⟨hg,hp⟩:=dY hpt;exact ry hg hp
theorem q8 {a b X Y E n l h:Int} (e:du a b X Y E n=some (l,h)) :
  cZ a b X Y E=true∧decide ((X,Y,E) ∈ gL a b)=(dc a X Y E).isSome∧0≤l∧aR l h=true∧n≤ik a b X Y E∧(∃ L H,cw a b X Y E=some (L,H)∧l≤L∧H≤h∧aR L H=true)∧((dc a X Y E).isSome=true→l≤0):=by
 obtain ⟨k,rfl,hk,hpt,ho,hp⟩:=uO e;cases hp
 obtain ⟨hg,hpo⟩:=dY hpt;obtain ⟨p1,p2,p3,p4,-,-⟩:=dG (ah hg) hpo;have hC:=eI (ah hg)
 have hbv:cw a b X Y E=some (bL a b X E (bN a b X E),bH a b X E (bN a b X E)):=by
  unfold cw gd;rw [hpt,if_pos rfl];exact dO hg hpo
 have hN:=uD hk ho;refine ⟨hpt,oj hpt,vU hk,mh (by omega) hk p1 p2 p3 p4,?_,⟨_,_,hbv,th _ hN,tg _ hN,?_⟩,fun ht=>oh hg hpo ht k ho⟩
 ·unfold ik
  rw [hbv]
  show (k:Int)≤((bN a b X E:Nat):Int)
  omega
 exact gi hg hpo _ (dO hg hpo)
theorem oM {a b X E:Int}:∀ (f k r:Nat),iM a b X E f k=some r→k≤r∧r<k+f∧isOk (aU a b X E r)=true∧0<hL (hC a b) r (aU a b X E r)∧∀ j,k≤j→j<r→isOk (aU a b X E j)=true∧hL (hC a b) j (aU a b X E j)≤0
 | 0,k,r,h=>by cases h
 | f+1,k,r,h=>by
  unfold iM at h
  split at h
  ·rename_i ho
   split at h
   ·rename_i hp
    cases h
    exact ⟨wQ _,by omega,ho,hp,fun j h1 h2=>by omega⟩
   rename_i hp
   obtain ⟨h1,h2,h3,h4,h5⟩:=oM f (k+1) r h;refine ⟨by omega,by omega,h3,h4,fun j j1 j2=>?_⟩
   by_cases e:j=k
   ·subst e;exact ⟨ho,by omega⟩
   exact h5 j (by omega) j2
  cases h
theorem uh {a b X Y E:Int} {r:Nat} (e:kT a b X Y E=some r) :
  cZ a b X Y E=true∧r≤5∧(∃ l h,du a b X Y E (r:Int)=some (l,h)∧0<l)∧(0<(r:Int)→∃ l h,du a b X Y E ((r:Int) - 1)=some (l,h)∧l≤0)∧decide ((X,Y,E) ∈ gL a b)=false:=by
 unfold kT at e
 split at e
 ·rename_i hpt
  obtain ⟨-,h2,h3,h4,h5⟩:=oM 6 0 r e
  have hr:r≤5:=by omega
  obtain ⟨hg,hpo⟩:=dY hpt;refine ⟨hpt,hr,⟨_,_,q7 hr hpt h3,h4⟩,fun hp=>?_,?_⟩
  ·obtain ⟨j,rfl⟩:∃ j,r=j+1:=⟨r - 1,by omega⟩
   obtain ⟨q1,q2⟩:=h5 j (by omega) (by omega)
   have ej:((j+1:Nat):Int) - 1=(j:Int):=by omega
   rw [ej];exact ⟨_,_,q7 (by omega) hpt q1,q2⟩
  rw [oj hpt]
  cases ht:(dc a X Y E).isSome with
  | false=>rfl
  | true=>
  have:=oh hg hpo ht r h3;omega
 cases e
end M
end
section
open Go.RowKit
structure CQ (w:World) (r1 r2:Nat) (L:List (Nat × TypeId × Array Value)) (T1 T2:TypeId) (xs ys:Array Value) (W:World):Prop where
 B:Below w.heap.size w W
 hV:∀ x ∈ L,aH W x.1 x.2.1 x.2.2
 R:aH W r1 T1 xs
 Q:aH W r2 T2 ys
 hn:w.heap.size≤r1∧r1<r2
 hL:∀ x ∈ L,r2<x.1
theorem CQ.drew {w W:World} {r1 r2:Nat} {L:List (Nat × TypeId × Array Value)} {T1 T2:TypeId} {xs ys:Array Value} (h:CQ w r1 r2 L T1 T2 xs ys W):CQ w r1 r2 L T1 T2 xs ys W.drew:=
 ⟨h.B.drew,h.hV,h.R,h.Q,h.hn,h.hL⟩
theorem CQ.kV {w W:World} {r1 r2:Nat} {L:List (Nat × TypeId × Array Value)} {T1 T2:TypeId} {u1 u2:Value} {ys:Array Value} (h:CQ w r1 r2 L T1 T2 #[u1,u2] ys W) (x y:Value):CQ w r1 r2 L T1 T2 #[x,y] ys ((W.setCell ⟨r1,0,none⟩ x).setCell ⟨r1,1,none⟩ y):=by
 have hn:=h.hn
 have hL:∀ y ∈ L,r1<y.1:=fun y hy=>Nat.lt_trans hn.2 (h.hL y hy)
 exact ⟨wO (wO h.B hn.1 _) hn.1 _,aH.ei (aH.ei h.hV hL) hL,h.R.set2 _ _,(h.Q.other (by omega) _).other (by omega) _,hn,h.hL⟩
theorem CQ.jT {w W:World} {r1 r2:Nat} {L:List (Nat × TypeId × Array Value)} {T1 T2:TypeId} {u1 u2:Value} {xs:Array Value} (h:CQ w r1 r2 L T1 T2 xs #[u1,u2] W) (x y:Value):CQ w r1 r2 L T1 T2 xs #[x,y] ((W.setCell ⟨r2,0,none⟩ x).setCell ⟨r2,1,none⟩ y):=by
 have hn:=h.hn;have hL:=h.hL
 have h2:w.heap.size≤r2:=by omega
 exact ⟨wO (wO h.B h2 _) h2 _,aH.ei (aH.ei h.hV hL) hL,(h.R.other (by omega) _).other (by omega) _,h.Q.set2 _ _,hn,hL⟩
theorem nI (a b c d:Int) (w:World) (hab:M.aR a b=true) (hcd:M.aR c d=true) :
  Calls Tryz.prog 64 #[.agg #[.int .i64 (M.pn a),.int .i64 (M.pd a),.int .i64 (M.pn b),.int .i64 (M.pd b)],.agg #[.int .i64 (M.pn c),.int .i64 (M.pd c),.int .i64 (M.pn d),.int .i64 (M.pd d)]] w fun e w'=>e=.returned (.tuple #[.agg #[.int .i64 a,.int .i64 b],.agg #[.int .i64 c,.int .i64 d],.bool true])∧Below w.heap.size w w':=by
 have P1:=fun W=>jK a b W hab
 have P2:=fun W=>jK c d W hcd
 clear hab hcd;generalize M.pd d=y4,M.pn d=y3,M.pd c=y2,M.pn c=y1,M.pd b=x4,M.pn b=x3,M.pd a=x2,M.pn a=x1 at *;replace P1:=wM P1;replace P2:=wM P2;obtain ⟨wc,hw3,C,U,R,R2,B⟩:=wJ w #[.int .i64 x1,.int .i64 x2,.int .i64 x3,.int .i64 x4] 33 #[.int .i64 y1,.int .i64 y2,.int .i64 y3,.int .i64 y4] 33 #[.int .i64 0,.int .i64 0] 74 #[.int .i64 0,.int .i64 0] 74;have ⟨c0,c1,c2,c3,_,_,_,_,_⟩:=C.aP;have ⟨u0,u1,u2,u3,_,_,_,_,_⟩:=U.aP;have zl:=R2.lt;go_enter Tryz.func64,Tryz.ntmps64
 go_upto_region 2 with (first | (go_at_call 66;(with_reducible refine (P1.out _).mono ?_);rintro e w4 ⟨rfl,hb4⟩;replace B:=d_ B hb4;replace C:=C.keep hb4;replace U:=U.keep hb4;replace R:=R.keep hb4;replace R2:=R2.keep hb4;(have ⟨c0,c1,c2,c3,_,_,_,_,_⟩:=C.aP);(have ⟨u0,u1,u2,u3,_,_,_,_,_⟩:=U.aP);(skip);(skip);have zr4:=R2.lt;have B0:=B;have yn:=B.size;replace B:=B.alloc yn (.cells #[.int .i64 a,.int .i64 b] 74);replace C:=C.alloc (.cells #[.int .i64 a,.int .i64 b] 74);replace U:=U.alloc (.cells #[.int .i64 a,.int .i64 b] 74);replace R:=R.alloc (.cells #[.int .i64 a,.int .i64 b] 74);replace R2:=R2.alloc (.cells #[.int .i64 a,.int .i64 b] 74);have V:=aH.new w4 #[.int .i64 a,.int .i64 b] 74;(have ⟨c0,c1,c2,c3,_,_,_,_,_⟩:=C.aP);(have ⟨u0,u1,u2,u3,_,_,_,_,_⟩:=U.aP);(skip);(skip)))
 have hv1:=V.lt
 go_upto_region 5 with (first | (go_at_call 66;(with_reducible refine (P2.out _).mono ?_);rintro e w5 ⟨rfl,hb5⟩;replace B:=d_ B hb5;replace R:=R.keep hb5;replace R2:=R2.keep hb5;replace V:=V.keep hb5;(skip);(skip);(have ⟨v0,v1,_,_,_⟩:=V.box);have zr5:=R2.lt;have B0:=B;have hz5:=B.size;replace B:=B.alloc hz5 (.cells #[.int .i64 c,.int .i64 d] 74);replace R:=R.alloc (.cells #[.int .i64 c,.int .i64 d] 74);replace R2:=R2.alloc (.cells #[.int .i64 c,.int .i64 d] 74);replace V:=V.alloc (.cells #[.int .i64 c,.int .i64 d] 74);have V2:=aH.new w5 #[.int .i64 c,.int .i64 d] 74;(skip);(skip);(have ⟨v0,v1,_,_,_⟩:=V.box)))
 have TW:CQ w (w.heap.size+1+1) (w.heap.size+1+1+1) [(w4.heap.size,74,#[.int .i64 a,.int .i64 b]),(w5.heap.size,74,#[.int .i64 c,.int .i64 d])] 74 74 _ _ _:=⟨B,fun x hx=>(by rcases List.mem_cons.1 hx with rfl | hx;exact V;rcases List.mem_cons.1 hx with rfl | hx;exact V2;cases hx),R,R2,⟨by omega,by omega⟩,fun x hx=>(by rcases List.mem_cons.1 hx with rfl | hx;(show w.heap.size+1+1+1<w4.heap.size;omega);rcases List.mem_cons.1 hx with rfl | hx;(show w.heap.size+1+1+1<w5.heap.size;omega);cases hx)⟩
 clear B V V2 R R2 C U;refine Rg.gM (fun l W=>CQ w (w.heap.size+1+1) (w.heap.size+1+1+1) [(w4.heap.size,74,#[.int .i64 a,.int .i64 b]),(w5.heap.size,74,#[.int .i64 c,.int .i64 d])] 74 74 (bif l 2 then #[.int .i64 a,.int .i64 b] else #[.int .i64 0,.int .i64 0]) (bif l 3 then #[.int .i64 c,.int .i64 d] else #[.int .i64 0,.int .i64 0]) W) (fun _ _ _=>True) (fun _ _=>True) [2,3] [.agg #[.int .i64 a,.int .i64 b],.agg #[.int .i64 c,.int .i64 d],undef,undef,.bool true] (by kernel_rfl) (by kernel_rfl) (by decide) (fun l l2 W h q=>by rw [←h 2 (by decide),←h 3 (by decide)];exact q) (fun _ _ _ _ _ _=>trivial) TW.drew ⟨?_,?_,?_,?_,?_,trivial⟩ ?_
 ·unfold Rg.aj
  intro zZ w_ l_ wV wu xY xQ xl xZ wU hr;refine ⟨rfl,?_⟩;rw [if_neg (by decide)];have e7:zZ.tmps[7]?=some (.pointer (some ⟨w4.heap.size,0,none⟩)):=hr 7 (by decide);have wt:aH w_ w4.heap.size 74 #[.int .i64 a,.int .i64 b]:=wu.hV (w4.heap.size,74,#[.int .i64 a,.int .i64 b]) (by simp);have ⟨k0,k1,_,_,_⟩:=wt.box
  (first | (go_simp;done) | (go_simp;exact Rg.wr (by omega) (by omega)) | (go_simp;omega) | (go_simp;rfl) | (go_simp;exact ⟨rfl,rfl⟩))
 ·unfold Rg.aj
  intro zZ w_ l_ wV wu xY xQ xl xZ wU hr;refine ⟨rfl,?_⟩;rw [if_neg (by decide)];have e9:zZ.tmps[9]?=some (.pointer (some ⟨w5.heap.size,0,none⟩)):=hr 9 (by decide);have wt:aH w_ w5.heap.size 74 #[.int .i64 c,.int .i64 d]:=wu.hV (w5.heap.size,74,#[.int .i64 c,.int .i64 d]) (by simp);have ⟨k0,k1,_,_,_⟩:=wt.box
  (first | (go_simp;done) | (go_simp;exact Rg.wr (by omega) (by omega)) | (go_simp;omega) | (go_simp;rfl) | (go_simp;exact ⟨rfl,rfl⟩))
 ·unfold Rg.aj
  intro zZ w_ l_ wV wu xY xQ xl xZ wU hr;have e4:zZ.tmps[4]?=some (.pointer (some ⟨w.heap.size+1+1,0,none⟩)):=hr 4 (by decide);have e29:zZ.tmps[29]?=some (.agg #[.int .i64 a,.int .i64 b]):=hr 29 (by decide);refine ⟨rfl,?_⟩;rw [if_pos (by decide)];have q_:=wu;simp only [xQ,cond_false] at q_;have ws:=And.intro (q_.kV (.int .i64 a) (.int .i64 b)) (And.intro True.intro True.intro)
  skip
  have ⟨AV,AW,AX,AY,_⟩:=q_.R.box;unfold Oper.wp
  go_simp
  all_goals first | exact ws | exact ws.1 | exact ⟨undef,ws⟩ | exact ⟨_,rfl,ws⟩
 ·unfold Rg.aj
  intro zZ w_ l_ wV wu xY xQ xl xZ wU hr;have e5:zZ.tmps[5]?=some (.pointer (some ⟨w.heap.size+1+1+1,0,none⟩)):=hr 5 (by decide);have e30:zZ.tmps[30]?=some (.agg #[.int .i64 c,.int .i64 d]):=hr 30 (by decide);refine ⟨rfl,?_⟩;rw [if_pos (by decide)];have q_:=wu;simp only [xQ,cond_false] at q_;have ws:=And.intro (q_.jT (.int .i64 c) (.int .i64 d)) (And.intro True.intro True.intro);have ⟨AV,AW,AX,AY,_⟩:=q_.Q.box;unfold Oper.wp
  go_simp
  all_goals first | exact ws | exact ws.1 | exact ⟨undef,ws⟩ | exact ⟨_,rfl,ws⟩
 ·unfold Rg.aj
  intro zZ w_ l_ wV wu xY xQ xl xZ wU hr;refine ⟨rfl,?_⟩;rw [if_neg (by decide)];have ec:=Rg.ec zZ
  go_simp
 intro vals wz wu hF hv;have Af:vals 4=.bool true:=hv 4 (by decide) (by decide);simp only [Rg.bE,Rg.fill,Act.put,Nat.reduceAdd];clear hv hF;simp only [Af];clear Af;simp only [cond_true] at wu;obtain ⟨B,-,R,R2,-,-⟩:=wu;have ⟨r0,r1,_,_,_⟩:=R.box;have ⟨s0,s1,_,_,_⟩:=R2.box;go_wp2;exact bodyPost_ret (v:=.tuple #[.agg #[.int .i64 a,.int .i64 b],.agg #[.int .i64 c,.int .i64 d],.bool true]) (by simp [results,Tryz.results64,go_sem, *]) rfl (⟨rfl,B⟩)
theorem gX (a b c d:Int) (w:World) (hab:M.aR a b=true) (hcd:M.aR c d=true) (hm:M.aR (max a c) (min b d)=true) :
  Calls Tryz.prog 12 #[.agg #[.int .i64 (M.pn a),.int .i64 (M.pd a),.int .i64 (M.pn b),.int .i64 (M.pd b)],.agg #[.int .i64 (M.pn c),.int .i64 (M.pd c),.int .i64 (M.pn d),.int .i64 (M.pd d)]] w fun e w'=>e=.returned (.tuple #[.agg #[.int .i64 (M.pn (max a c)),.int .i64 (M.pd (max a c)),.int .i64 (M.pn (min b d)),.int .i64 (M.pd (min b d))],.bool true])∧Below w.heap.size w w':=by
 have PT:=fun W=>nI a b c d W hab hcd
 have PC:=fun W=>lM a b c d W
 have PI:=fun W=>fu (max a c) (min b d) true W
 rw [hm,Bool.and_true] at PI;simp only [M.cj] at PI;clear hab hcd hm;generalize min b d=hi,max a c=lo,M.pd d=y4,M.pn d=y3,M.pd c=y2,M.pn c=y1,M.pd b=x4,M.pn b=x3,M.pd a=x2,M.pn a=x1,M.pd (min b d)=z4,M.pn (min b d)=z3,M.pd (max a c)=z2,M.pn (max a c)=z1 at *;replace PT:=wM PT;replace PC:=wM PC;replace PI:=wM PI;obtain ⟨wc,hw3,C,U,R,B⟩:=jP w #[.int .i64 x1,.int .i64 x2,.int .i64 x3,.int .i64 x4] 33 #[.int .i64 y1,.int .i64 y2,.int .i64 y3,.int .i64 y4] 33 #[.int .i64 0,.int .i64 0,.int .i64 0,.int .i64 0] 33;have ⟨c0,c1,c2,c3,_,_,_,_,_⟩:=C.aP;have ⟨u0,u1,u2,u3,_,_,_,_,_⟩:=U.aP;go_enter Tryz.func12,Tryz.ntmps12
 go_wp2_with (first | (go_at_call 64;(with_reducible refine (PT.out _).mono ?_);rintro e w4 ⟨rfl,hb4⟩;replace B:=d_ B hb4;replace R:=R.keep hb4;(have ⟨r0,r1,r2,r3,z0,IZ,Ia,Ib,rl⟩:=R.aP);have B0:=B;have yn:=B.size;replace B:=B.alloc yn (.cells #[.int .i64 a,.int .i64 b] 74);replace R:=R.alloc (.cells #[.int .i64 a,.int .i64 b] 74);have V:=aH.new w4 #[.int .i64 a,.int .i64 b] 74;(have ⟨r0,r1,r2,r3,z0,IZ,Ia,Ib,rl⟩:=R.aP);have Lr:=B.size;replace B:=B.alloc Lr (.cells #[.int .i64 c,.int .i64 d] 74);replace R:=R.alloc (.cells #[.int .i64 c,.int .i64 d] 74);replace V:=V.alloc (.cells #[.int .i64 c,.int .i64 d] 74);have V2:=aH.new (w4.alloc (.cells #[.int .i64 a,.int .i64 b] 74)) #[.int .i64 c,.int .i64 d] 74;(rw [wN] at V2);(have ⟨r0,r1,r2,r3,z0,IZ,Ia,Ib,rl⟩:=R.aP);(have ⟨v0,v1,_,_,_⟩:=V.box);(have ⟨v2,v3,_,_,_⟩:=V2.box)) | (go_at_call 65;(with_reducible refine (PC.out _).mono ?_);rintro e w7 ⟨rfl,xC⟩;replace B:=d_ B xC;replace R:=R.keep xC;(have ⟨r0,r1,r2,r3,z0,IZ,Ia,Ib,rl⟩:=R.aP)) | (go_at_call 58;(with_reducible refine (PI.out _).mono ?_);rintro e w8 ⟨rfl,xD⟩;replace B:=d_ B xD;replace R:=R.keep xD;(have ⟨r0,r1,r2,r3,z0,IZ,Ia,Ib,rl⟩:=R.aP)))
 exact bodyPost_ret (v:=.tuple #[.agg #[.int .i64 z1,.int .i64 z2,.int .i64 z3,.int .i64 z4],.bool true]) (by simp [results,Tryz.results12,go_sem, *]) rfl (⟨rfl,wO (wO (wO (wO B (by dsimp only;omega) _) (by dsimp only;omega) _) (by dsimp only;omega) _) (by dsimp only;omega) _⟩)
theorem fO (a b X Y E:Int) (w:World) :
  Calls Tryz.prog 16 #[.agg #[.int .i64 a,.int .i64 b],.agg #[.int .i64 X,.int .i64 Y,.int .i64 E]] w fun e w'=>e=.returned (.tuple #[.bool (M.cZ a b X Y E && (M.dc a X Y E).isSome),.bool (M.cZ a b X Y E)])∧Below w.heap.size w w':=by
 have PT:∀ W,Calls Tryz.prog 62 #[.agg #[.int .i64 a,.int .i64 b],.agg #[.int .i64 X,.int .i64 Y,.int .i64 E]] W fun e w'=>e=.returned (.bool (M.cZ a b X Y E))∧Below W.heap.size W w':=fun W=>d7 a b X Y E W
 obtain ⟨wc,hw3,C,Q,B⟩:=dL w #[.int .i64 a,.int .i64 b] 25 #[.int .i64 X,.int .i64 Y,.int .i64 E] 27;have ⟨c0,c1,_,_,_⟩:=C.box;have ⟨q0,q1,q2⟩:=Q.aO
 cases h0:M.cZ a b X Y E with
 | false=>
  rw [h0] at PT;replace PT:=wM PT;rw [Bool.false_and];go_enter Tryz.func16,Tryz.ntmps16
  go_wp2_with (first | (go_at_call 62;(with_reducible refine (PT.out _).mono ?_);rintro e w4 ⟨rfl,hb4⟩;replace B:=d_ B hb4;replace C:=C.keep hb4;replace Q:=Q.keep hb4;(have ⟨c0,c1,_,_,_⟩:=C.box);(have ⟨q0,q1,q2⟩:=Q.aO)))
  go_ret2;exact ⟨rfl,B⟩
 | true=>
 rw [h0] at PT;obtain ⟨hg,hp1⟩:=M.dY h0;rw [Bool.true_and];replace PT:=wM PT
 have PO:=wM fun W=>pg a b X Y E W hg hp1
 generalize (M.dc a X Y E).getD 0=od,(M.dc a X Y E).isSome=ok at *;clear h0 hg hp1;go_enter Tryz.func16,Tryz.ntmps16
 go_wp2_with (first | (go_at_call 62;(with_reducible refine (PT.out _).mono ?_);rintro e w4 ⟨rfl,hb4⟩;replace B:=d_ B hb4;replace C:=C.keep hb4;replace Q:=Q.keep hb4;(have ⟨c0,c1,_,_,_⟩:=C.box);(have ⟨q0,q1,q2⟩:=Q.aO)) | (go_at_call 69;(with_reducible refine (PO.out _).mono ?_);rintro e w5 ⟨rfl,hb5⟩;replace B:=d_ B hb5))
 go_ret2;exact ⟨rfl,B⟩
theorem dV (a b X Y E:Int) (w:World) :
  Calls Tryz.prog 15 #[.agg #[.int .i64 a,.int .i64 b],.agg #[.int .i64 X,.int .i64 Y,.int .i64 E]] w fun e w'=>e=.returned (.tuple #[.bool (M.cZ a b X Y E && decide ((X,Y,E) ∈ M.gL a b)),.bool (M.cZ a b X Y E)])∧Below w.heap.size w w':=by
 have PT:∀ W,Calls Tryz.prog 55 #[.agg #[.int .i64 a,.int .i64 b],.agg #[.int .i64 X,.int .i64 Y,.int .i64 E]] W fun e w'=>e=.returned (.bool (M.cZ a b X Y E))∧Below W.heap.size W w':=fun W=>eJ a b X Y E W
 obtain ⟨wc,hw3,C,Q,B⟩:=dL w #[.int .i64 a,.int .i64 b] 25 #[.int .i64 X,.int .i64 Y,.int .i64 E] 27;have ⟨c0,c1,_,_,_⟩:=C.box;have ⟨q0,q1,q2⟩:=Q.aO
 cases h0:M.cZ a b X Y E with
 | false=>
  rw [h0] at PT;replace PT:=wM PT;rw [Bool.false_and];go_enter Tryz.func15,Tryz.ntmps15
  go_wp2_with (first | (go_at_call 55;(with_reducible refine (PT.out _).mono ?_);rintro e w4 ⟨rfl,hb4⟩;replace B:=d_ B hb4;replace C:=C.keep hb4;replace Q:=Q.keep hb4;(have ⟨c0,c1,_,_,_⟩:=C.box);(have ⟨q0,q1,q2⟩:=Q.aO)))
  go_ret2;exact ⟨rfl,B⟩
 | true=>
 rw [h0] at PT;obtain ⟨hg,hp1⟩:=M.dY h0;rw [Bool.true_and];replace PT:=wM PT
 have PL:=wM fun W=>iO a b W hg
 have PC:=wM fun (v:Value) W (h:fm W v (M.gL a b)) (hl:(M.gL a b).length≤12100)=>j7 X Y E v (M.gL a b) W h hl
 generalize M.gL a b=ts,decide ((X,Y,E) ∈ M.gL a b)=res at *;clear h0 hg hp1;go_enter Tryz.func15,Tryz.ntmps15
 go_upto_region 3 with (first | (go_at_call 55;(with_reducible refine (PT.out _).mono ?_);rintro e w4 ⟨rfl,hb4⟩;replace B:=d_ B hb4;replace C:=C.keep hb4;replace Q:=Q.keep hb4;(have ⟨c0,c1,_,_,_⟩:=C.box);(have ⟨q0,q1,q2⟩:=Q.aO)))
 refine Rg.bO 6 [.is (.agg #[.int .i64 a,.int .i64 b]),.at (fun v W=>fm W v ts∧ts.length≤12100),.is (.agg #[.int .i64 X,.int .i64 Y,.int .i64 E]),.is (.bool res),.is (.bool res),.is (.bool true)] (by kernel_rfl) (by kernel_rfl) (by kernel_rfl) ⟨?_,?_,?_,?_,?_,?_,trivial⟩ ?_
 ·intro _ zZ w_ hB hr
  have e2:zZ.tmps[2]?=some (.pointer (some ⟨w.heap.size,0,none⟩)):=hr 2 (by decide);have wt:=C.keep hB;have ⟨k0,k1,_,_,_⟩:=wt.box;exact Rg.aG rfl (by (first | (go_simp;done)))
 ·intro _ zZ w_ hB hr
  have e10:=Rg.c_ (hr 10 (by decide));have ef:=Rg.ef zZ;refine Rg.af rfl (by go_simp;exact ⟨rfl,rfl⟩) ?_;refine (PL.out w_).mono ?_;rintro e w5 ⟨v5,rfl,wl,hl5,hb5⟩;exact ⟨_,rfl,fun w6 hb6=>⟨wl.below hb6,hl5⟩,hb5⟩
 ·intro _ zZ w_ hB hr
  have e3:zZ.tmps[3]?=some (.pointer (some ⟨w.heap.size+1,0,none⟩)):=hr 3 (by decide);have wt:=Q.keep hB;have ⟨k0,k1,k2⟩:=wt.aO;exact Rg.aG rfl (by (first | (go_simp;done)))
 ·intro _ zZ w_ hB hr
  obtain ⟨v11,e11,n11⟩:∃ v,zZ.tmps[11]?=some v∧(Rg.Val.at (fun v W=>fm W v ts∧ts.length≤12100)).ok v w_:=hr 11 (by decide);have e12:=Rg.c_ (hr 12 (by decide));have ef:=Rg.ef zZ;exact Rg.bp rfl (by go_simp) (PC.out v11 w_ (Rg.ag n11).1 (Rg.ag n11).2)
 ·intro _ zZ w_ hB hr
  have e13:=Rg.c_ (hr 13 (by decide));exact Rg.aG rfl (by go_simp)
 ·intro _ zZ w_ hB hr
  have ec:=Rg.ec zZ;exact Rg.aG rfl (by go_simp)
 intro vals wz hB hv hne;have Af:vals 4=.bool res:=hv 4 (by decide);have BO:vals 5=.bool true:=hv 5 (by decide);simp only [Rg.bE,Rg.fill,Act.put,Nat.reduceAdd];clear hv;simp only [Af,BO];clear Af BO;replace B:=d_ B hB;clear hB hne;unfold Rg.aZ;go_wp2;go_ret2;exact ⟨rfl,B⟩
def k8 (W:World) (h:Nat):Prop:=∃ X Y E:Int,aH W h 27 #[.int .i64 X,.int .i64 Y,.int .i64 E]
def ck (S:Nat) (W W':World):Prop:=∀ h,S≤h→k8 W h→k8 W' h
theorem ck.self (S:Nat) (W:World):ck S W W:=fun _ _ h=>h
theorem ck.below {S:Nat} {W W':World} (hb:Below W.heap.size W W'):ck S W W':=fun _ _ h=>by
 obtain ⟨X,Y,E,h⟩:=h;exact ⟨X,Y,E,h.keep hb⟩
theorem ck.grown {S g:Nat} {W W':World} (hg:W.grownBy W' (some g)) (hS:g<S):ck S W W':=fun _ hS2 h=>by
 obtain ⟨X,Y,E,h⟩:=h;exact ⟨X,Y,E,h.aW hg (by omega)⟩
theorem ck.put {S g:Nat} {W:World} (h:k8 W g) (X Y E:Int):ck S W (((W.setCell ⟨g,0,none⟩ (.int .i64 X)).setCell ⟨g,1,none⟩ (.int .i64 Y)).setCell ⟨g,2,none⟩ (.int .i64 E)):=fun k _ hk=>by
 by_cases e:k=g
 ·subst e
  obtain ⟨X0,Y0,E0,h⟩:=h;exact ⟨X,Y,E,h.tt _ _ _⟩
 obtain ⟨X0,Y0,E0,hk⟩:=hk;exact ⟨X0,Y0,E0,((hk.other e _).other e _).other e _⟩
theorem ck.jT {S g:Nat} {W:World} (h:∃ a b:Int,aH W g 25 #[.int .i64 a,.int .i64 b]) (hT:(25:TypeId)≠27) (X Y:Int):ck S W ((W.setCell ⟨g,0,none⟩ (.int .i64 X)).setCell ⟨g,1,none⟩ (.int .i64 Y)):=fun k _ hk=>by
 obtain ⟨X0,Y0,E0,hk⟩:=hk
 have e:k≠g:=by
  rintro rfl;obtain ⟨a,b,h⟩:=h;unfold aH at h hk;rw [h] at hk;cases hk
 exact ⟨X0,Y0,E0,(hk.other e _).other e _⟩
def PkF (lo hi:Int) (u:Value):Prop:=∃ x:Int,(lo≤x∧x≤hi)∧u=.int .i64 x
def vG (u:Value):Prop:=∃ (X Y E:Int) (q:Bool),u=.tuple #[.agg #[.int .i64 X,.int .i64 Y,.int .i64 E],.bool q]
def Ic (u:Value):Prop:=∃ X Y E:Int,u=.agg #[.int .i64 X,.int .i64 Y,.int .i64 E]
def tc (u:Value):Prop:=∃ q:Bool,u=.bool q
def tv (S:Nat) (u:Value) (W:World):Prop:=∃ h,u=.pointer (some ⟨h,0,none⟩)∧S≤h∧k8 W h
theorem ii (g B:Nat) (v:Value) (n K:Nat) (w:World) (h:cK w g B v n K) (hk:K≤600000000) :
  Calls Tryz.prog 71 #[.pointer (some ⟨g,0,none⟩)] w (jV w g B v n (K+50)):=by
 have hl:=h.size;obtain ⟨wc,hw3,R,BB⟩:=iG w #[.int .i64 0,.int .i64 0] 25;have st:=(St.start h).keep BB;have hB:=st.lt;have hwc:=BB.size
 have nR:w.heap.size≠g:=by omega
 have hRl:=R.lt;clear h BB;go_enter Tryz.func71,Tryz.ntmps71
 go_wp2_with fail
 refine (sc g B v n _ _ st.cur (by omega)).mono ?_;rintro e BP ⟨a,b,rfl,wU,j_⟩;replace st:=st.call wU j_;have D6:=j_.size;replace R:=R.aW j_ nR;clear wU j_;have E:=aH.new BP #[.int .i64 a,.int .i64 b] 25;have zlE:=st.size;have zgE:=st.le;replace st:=st.alloc (.cells #[.int .i64 a,.int .i64 b] 25);replace R:=R.alloc (.cells #[.int .i64 a,.int .i64 b] 25)
 have nE:BP.heap.size≠g:=by omega
 go_wp2_with fail
 generalize BP.heap.size=G at *;refine (ci g B v n _ 30 _ st.cur (by omega) (by omega) (by omega)).mono ?_;rintro e BQ ⟨x,rfl,⟨Hl,Hk⟩,wU,j_⟩;replace st:=st.call wU j_;have HN:=j_.size;replace R:=R.aW j_ nR;replace E:=E.aW j_ nE;clear wU j_
 by_cases x0:x=0
 ·subst x0
  go_wp2_with fail
  have yA:=st;replace st:=st.alloc (.cells #[.int .i64 (-1001),.int .i64 (-1000),.int .i64 1000,.int .i64 1001,.int .i64 (-9223372036854775808)] 3);replace R:=R.alloc (.cells #[.int .i64 (-1001),.int .i64 (-1000),.int .i64 1000,.int .i64 1001,.int .i64 (-9223372036854775808)] 3);replace E:=E.alloc (.cells #[.int .i64 (-1001),.int .i64 (-1000),.int .i64 1000,.int .i64 1001,.int .i64 (-9223372036854775808)] 3);refine (bq g B v n _ [-1001,-1000,1000,1001,-9223372036854775808] (BQ).heap.size 5 _ st.cur (by omega) rfl (by omega) (by omega) (by have:=yA.size;omega) (bP _ _ _)).mono ?_;rintro e BR ⟨y,rfl,-,wU,j_⟩;replace st:=st.call wU j_;have BN:=j_.size;replace R:=R.aW j_ nR;replace E:=E.aW j_ nE;clear wU j_;clear yA;have ⟨CG,CH,zD,zH,CI⟩:=E.box
  go_upto_region 9 with fail
  clear CG CH zD zH CI;replace E:aH _ G 25 #[.int .i64 y,.int .i64 b]:=E.set 0 (.int .i64 y)
  replace st:=(st.aV (c:=G) (o:=0) (by omega) (by omega) (by omega) (.int .i64 y))
  replace R:=(R.other (k:=G) (i:=0) (by omega) (.int .i64 y))
  generalize (BR.setCell ⟨G,0,none⟩ (.int .i64 y))=w8 at *;have ⟨AO,AP,o_,p_,AQ⟩:=R.box;have ⟨CG,CH,zD,zH,CI⟩:=E.box;go_wp2;exact bodyPost_ret (v:=.agg #[.int .i64 y,.int .i64 b]) (by simp [results,Tryz.results71,go_sem, *]) rfl (⟨y,b,rfl,((st.aV (c:=w.heap.size) (o:=0) (by omega) (by omega) (by omega) (.int .i64 y)).aV (c:=w.heap.size) (o:=1) (by omega) (by omega) (by omega) (.int .i64 b)).cur.mono (by omega),((st.aV (c:=w.heap.size) (o:=0) (by omega) (by omega) (by omega) (.int .i64 y)).aV (c:=w.heap.size) (o:=1) (by omega) (by omega) (by omega) (.int .i64 b)).gr⟩)
 by_cases x1:x=1
 ·subst x1
  go_wp2_with fail
  have yA:=st;replace st:=st.alloc (.cells #[.int .i64 (-10001),.int .i64 (-10000),.int .i64 10000,.int .i64 10001,.int .i64 9223372036854775807] 3);replace R:=R.alloc (.cells #[.int .i64 (-10001),.int .i64 (-10000),.int .i64 10000,.int .i64 10001,.int .i64 9223372036854775807] 3);replace E:=E.alloc (.cells #[.int .i64 (-10001),.int .i64 (-10000),.int .i64 10000,.int .i64 10001,.int .i64 9223372036854775807] 3);refine (bq g B v n _ [-10001,-10000,10000,10001,9223372036854775807] (BQ).heap.size 5 _ st.cur (by omega) rfl (by omega) (by omega) (by have:=yA.size;omega) (bP _ _ _)).mono ?_;rintro e BR ⟨y,rfl,-,wU,j_⟩;replace st:=st.call wU j_;have BN:=j_.size;replace R:=R.aW j_ nR;replace E:=E.aW j_ nE;clear wU j_;clear yA;have ⟨CG,CH,zD,zH,CI⟩:=E.box
  go_upto_region 9 with fail
  clear CG CH zD zH CI;replace E:aH _ G 25 #[.int .i64 a,.int .i64 y]:=E.set 1 (.int .i64 y)
  replace st:=(st.aV (c:=G) (o:=1) (by omega) (by omega) (by omega) (.int .i64 y))
  replace R:=(R.other (k:=G) (i:=1) (by omega) (.int .i64 y))
  generalize (BR.setCell ⟨G,1,none⟩ (.int .i64 y))=w8 at *;have ⟨AO,AP,o_,p_,AQ⟩:=R.box;have ⟨CG,CH,zD,zH,CI⟩:=E.box;go_wp2;exact bodyPost_ret (v:=.agg #[.int .i64 a,.int .i64 y]) (by simp [results,Tryz.results71,go_sem, *]) rfl (⟨a,y,rfl,((st.aV (c:=w.heap.size) (o:=0) (by omega) (by omega) (by omega) (.int .i64 a)).aV (c:=w.heap.size) (o:=1) (by omega) (by omega) (by omega) (.int .i64 y)).cur.mono (by omega),((st.aV (c:=w.heap.size) (o:=0) (by omega) (by omega) (by omega) (.int .i64 a)).aV (c:=w.heap.size) (o:=1) (by omega) (by omega) (by omega) (.int .i64 y)).gr⟩)
 by_cases x2:x=2
 ·subst x2
  go_wp2_with fail
  have yA:=st;replace st:=st.alloc (.cells #[.int .i64 0,.int .i64 (-3),.int .i64 (-12)] 3);replace R:=R.alloc (.cells #[.int .i64 0,.int .i64 (-3),.int .i64 (-12)] 3);replace E:=E.alloc (.cells #[.int .i64 0,.int .i64 (-3),.int .i64 (-12)] 3);refine (bq g B v n _ [0,-3,-12] (BQ).heap.size 3 _ st.cur (by omega) rfl (by omega) (by omega) (by have:=yA.size;omega) (bP _ _ _)).mono ?_;rintro e BR ⟨y,rfl,-,wU,j_⟩;replace st:=st.call wU j_;have BN:=j_.size;replace R:=R.aW j_ nR;replace E:=E.aW j_ nE;clear wU j_;clear yA
  go_wp2_with fail
  have yA:=st;replace st:=st.alloc (.cells #[.int .i64 0,.int .i64 2,.int .i64 16] 3);replace R:=R.alloc (.cells #[.int .i64 0,.int .i64 2,.int .i64 16] 3);replace E:=E.alloc (.cells #[.int .i64 0,.int .i64 2,.int .i64 16] 3);refine (bq g B v n _ [0,2,16] (BR).heap.size 3 _ st.cur (by omega) rfl (by omega) (by omega) (by have:=yA.size;omega) (bP _ _ _)).mono ?_;rintro e w_z ⟨z,rfl,-,wU,j_⟩;replace st:=st.call wU j_;have MW:=j_.size;replace R:=R.aW j_ nR;replace E:=E.aW j_ nE;clear wU j_;clear yA;have ⟨CG,CH,zD,zH,CI⟩:=E.box
  go_upto_region 9 with fail
  clear CG CH zD zH CI;replace E:aH _ G 25 #[.int .i64 y,.int .i64 z]:=(E.set 0 (.int .i64 y)).set 1 (.int .i64 z)
  replace st:=((st.aV (c:=G) (o:=0) (by omega) (by omega) (by omega) (.int .i64 y)).aV (c:=G) (o:=1) (by omega) (by omega) (by omega) (.int .i64 z))
  replace R:=((R.other (k:=G) (i:=0) (by omega) (.int .i64 y)).other (k:=G) (i:=1) (by omega) (.int .i64 z))
  generalize ((w_z.setCell ⟨G,0,none⟩ (.int .i64 y)).setCell ⟨G,1,none⟩ (.int .i64 z))=w8 at *;have ⟨AO,AP,o_,p_,AQ⟩:=R.box;have ⟨CG,CH,zD,zH,CI⟩:=E.box;go_wp2;exact bodyPost_ret (v:=.agg #[.int .i64 y,.int .i64 z]) (by simp [results,Tryz.results71,go_sem, *]) rfl (⟨y,z,rfl,((st.aV (c:=w.heap.size) (o:=0) (by omega) (by omega) (by omega) (.int .i64 y)).aV (c:=w.heap.size) (o:=1) (by omega) (by omega) (by omega) (.int .i64 z)).cur.mono (by omega),((st.aV (c:=w.heap.size) (o:=0) (by omega) (by omega) (by omega) (.int .i64 y)).aV (c:=w.heap.size) (o:=1) (by omega) (by omega) (by omega) (.int .i64 z)).gr⟩)
 have b0:(x == 0)=false:=by simpa using x0
 have b1:(x == 1)=false:=by simpa using x1
 have b2:(x == 2)=false:=by simpa using x2
 have ⟨AO,AP,o_,p_,AQ⟩:=R.box;have ⟨CG,CH,zD,zH,CI⟩:=E.box;go_wp2;exact bodyPost_ret (v:=.agg #[.int .i64 a,.int .i64 b]) (by simp [results,Tryz.results71,go_sem, *]) rfl (⟨a,b,rfl,((st.aV (c:=w.heap.size) (o:=0) (by omega) (by omega) (by omega) (.int .i64 a)).aV (c:=w.heap.size) (o:=1) (by omega) (by omega) (by omega) (.int .i64 b)).cur.mono (by omega),((st.aV (c:=w.heap.size) (o:=0) (by omega) (by omega) (by omega) (.int .i64 a)).aV (c:=w.heap.size) (o:=1) (by omega) (by omega) (by omega) (.int .i64 b)).gr⟩)
theorem ij (g B:Nat) (v:Value) (n K:Nat) (w:World) (h:cK w g B v n K) (hk:K≤500000000) :
  Calls Tryz.prog 99 #[.pointer (some ⟨g,0,none⟩)] w (ot w g B v n (K+100)):=by
 have hl:=h.size;obtain ⟨wc,hw3,R,Q,BB⟩:=dL w #[.int .i64 0,.int .i64 0] 25 #[.int .i64 0,.int .i64 0,.int .i64 0] 27;have st:=(St.start h).keep BB;have hB:=st.lt;have hwc:=BB.size
 have nR:w.heap.size≠g:=by omega
 have nQ:w.heap.size+1≠g:=by omega
 clear h BB;go_enter Tryz.func99,Tryz.ntmps99
 go_wp2_with fail
 refine (pU g B v n _ _ st.cur (by omega)).mono ?_;rintro e BP ⟨a,b,X,Y,E,rfl,LA,wU,j_⟩;replace st:=st.call wU j_;have D6:=j_.size;replace R:=R.aW j_ nR;replace Q:=Q.aW j_ nQ;clear wU j_;have zrc:=R.lt;have zqc:=Q.lt;have C:=aH.new BP #[.int .i64 a,.int .i64 b] 25;have zlC:=st.size;have zgC:=st.le;replace st:=st.alloc (.cells #[.int .i64 a,.int .i64 b] 25);replace R:=R.alloc (.cells #[.int .i64 a,.int .i64 b] 25);replace Q:=Q.alloc (.cells #[.int .i64 a,.int .i64 b] 25)
 have nC:BP.heap.size≠g:=by omega
 have U:=aH.new (BP.alloc (.cells #[.int .i64 a,.int .i64 b] 25)) #[.int .i64 X,.int .i64 Y,.int .i64 E] 27;have zlU:=st.size;have zgU:=st.le;replace st:=st.alloc (.cells #[.int .i64 X,.int .i64 Y,.int .i64 E] 27);replace R:=R.alloc (.cells #[.int .i64 X,.int .i64 Y,.int .i64 E] 27);replace Q:=Q.alloc (.cells #[.int .i64 X,.int .i64 Y,.int .i64 E] 27);replace C:=C.alloc (.cells #[.int .i64 X,.int .i64 Y,.int .i64 E] 27);rw [wN] at U zlU zgU
 have nU:BP.heap.size+1≠g:=by omega
 go_wp2_with fail
 generalize BP.heap.size=G at *;refine (nw g B v n _ 3 _ st.cur (by omega) (by omega) (by omega)).mono ?_;rintro e F8 ⟨t,rfl,wU,j_⟩;replace st:=st.call wU j_;have sz_t:=j_.size;replace R:=R.aW j_ nR;replace Q:=Q.aW j_ nQ;replace C:=C.aW j_ nC;replace U:=U.aW j_ nU;clear wU j_
 go_upto_if 15 with fail
 go_cut [] from 6 to 26 (fun wx=>St w wx g B v n (K+20+2+2)∧aH wx w.heap.size 25 #[.int .i64 0,.int .i64 0]∧aH wx (w.heap.size+1) 27 #[.int .i64 0,.int .i64 0,.int .i64 0]∧aH wx G 25 #[.int .i64 a,.int .i64 b]∧k8 wx (G+1))
 case first=>as_aux_lemma=>
  cases t
  case false=>
   go_wp2
   go_meet
   exact ⟨st.up (by omega),R,Q,C,⟨X,Y,E,U⟩⟩
  case true=>
  go_upto_region 3 with fail
  have hRl2:=R.lt;have hCl2:=C.lt;have hUl:=U.lt;have K2:=Q.lt;have hgr:=st.size;refine Rg.gM (fun l W=>AS F8 g B v n ((K+20+2)+Rg.Aq [(3,2)] l) W) (fun i u W=>match i with | 3=>PkF 0 8 u | 4=>PkF (-4) 4 u | 5=>vG u | 6=>vG u | 7=>Ic u | 8=>tc u | 9=>tv F8.heap.size u W | 11=>tc u | _=>True) (ck F8.heap.size) [3,4,5,6,7,8,9,10,11] [.agg #[.int .i64 a,.int .i64 b],.agg #[.int .i64 X,.int .i64 Y,.int .i64 E],.pointer (some ⟨g,0,none⟩),undef,undef,undef,undef,undef,undef,undef,undef,undef] (by kernel_rfl) (by kernel_rfl) (by decide) (fun l l2 W h q=>by rw [←Rg.kG (C:=[(3,2)]) (l:=l) fun p hp=>h p.1 (by revert p;decide)];exact q) (fun i u w1 w2 hR h=>match i,h with | 0,h=>(trivial) | 1,h=>(trivial) | 2,h=>(trivial) | 3,h=>(h) | 4,h=>(h) | 5,h=>(h) | 6,h=>(h) | 7,h=>(h) | 8,h=>(h) | 9,h=>(by obtain ⟨Fu,Gi,h3_,h4_⟩:=h;exact ⟨Fu,Gi,h3_,hR Fu h3_ h4_⟩) | 10,h=>(trivial) | 11,h=>(h) | n_+12,_=>trivial) (AS.start st) ⟨?_,?_,?_,?_,?_,?_,?_,?_,?_,?_,?_,?_,trivial⟩ ?_
  ·unfold Rg.aj
   intro zZ w_ l_ wV wu xY xQ xl xZ wU hr;refine ⟨rfl,?_⟩;rw [if_neg (by decide)];have e4:zZ.tmps[4]?=some (.pointer (some ⟨G,0,none⟩)):=hr 4 (by decide);have wt:=C.aW wu.2 nC;have ⟨k0,k1,_,_,_⟩:=wt.box
   (first | (go_simp;done) | (go_simp;exact Rg.wr (by omega) (by omega)) | (go_simp;omega) | (go_simp;rfl) | (go_simp;exact ⟨rfl,rfl⟩))
  ·unfold Rg.aj
   intro zZ w_ l_ wV wu xY xQ xl xZ wU hr;refine ⟨rfl,?_⟩;rw [if_neg (by decide)];have e5:zZ.tmps[5]?=some (.pointer (some ⟨G+1,0,none⟩)):=hr 5 (by decide);have wt:=U.aW wu.2 nU;have ⟨k0,k1,k2⟩:=wt.aO
   (first | (go_simp;done) | (go_simp;exact Rg.wr (by omega) (by omega)) | (go_simp;omega) | (go_simp;rfl) | (go_simp;exact ⟨rfl,rfl⟩))
  ·unfold Rg.aj
   intro zZ w_ l_ wV wu xY xQ xl xZ wU hr;refine ⟨rfl,?_⟩;rw [if_neg (by decide)];have e0:zZ.tmps[0]?=some (.pointer (some ⟨g,0,none⟩)):=hr 0 (by decide)
   go_simp
  ·unfold Rg.aj
   intro zZ w_ l_ wV wu xY xQ xl xZ wU hr;have e19:zZ.tmps[19]?=some (.pointer (some ⟨g,0,none⟩)):=hr 19 (by decide)
   have ef:∀ f,zZ.eval (.func f)=.func (.func f) #[] #[]:=fun _=>rfl
   have ec:=Rg.ec zZ;refine ⟨rfl,?_⟩;rw [if_pos (by decide)];have Lu:=Rg.mj [(3,2)] l_;rw [show Rg.Aq [(3,2)] (fun _=>true)=2 from rfl] at Lu;refine Rg.qV (by go_simp;exact ⟨rfl,rfl⟩) ?_;refine (ci g B v n _ 9 _ wu.1 (by omega) (by omega) (by omega)).mono ?_;rintro e_ w5_ ⟨u_,rfl,hI_,Ey,j_⟩;exact ⟨_,rfl,by (try dsimp only);rw [Rg.rH (c:=2) (by decide) rfl xQ];exact wu.call Ey j_,⟨u_,hI_,rfl⟩,ck.grown j_ hgr⟩
  ·unfold Rg.aj
   intro zZ w_ l_ wV wu xY xQ xl xZ wU hr;have e20:zZ.tmps[20]?=some (wV 3):=hr 20 (by decide);have ec:=Rg.ec zZ;refine ⟨rfl,?_⟩;rw [if_pos (by decide)];obtain ⟨x_,⟨Ln,Lo⟩,A_⟩:=xY 3 (by decide) (xZ 3 (by kernel_rfl));rw [A_] at e20;refine Rg.mw (x:=.int .i64 (x_ - 4)) (w2:=w_) (by (first | (go_simp;done) | (go_simp;exact Rg.wr (by omega) (by omega)) | (go_simp;omega) | (go_simp;rfl) | (go_simp;exact ⟨rfl,rfl⟩))) ?_;exact ⟨by (try dsimp only);rw [Rg.dR (by decide)];exact wu,⟨_,⟨by omega,by omega⟩,rfl⟩,ck.self _ _⟩
  ·unfold Rg.aj
   intro zZ w_ l_ wV wu xY xQ xl xZ wU hr;have e17:zZ.tmps[17]?=some (.agg #[.int .i64 a,.int .i64 b]):=hr 17 (by decide);have e18:zZ.tmps[18]?=some (.agg #[.int .i64 X,.int .i64 Y,.int .i64 E]):=hr 18 (by decide);have e21:zZ.tmps[21]?=some (wV 4):=hr 21 (by decide)
   have ef:∀ f,zZ.eval (.func f)=.func (.func f) #[] #[]:=fun _=>rfl
   refine ⟨rfl,?_⟩;rw [if_pos (by decide)];obtain ⟨x_,⟨Ln,Lo⟩,A_⟩:=xY 4 (by decide) (xZ 4 (by kernel_rfl));rw [A_] at e21;refine Rg.qV (by go_simp;exact ⟨rfl,rfl⟩) ?_;refine (jn a b X Y E x_ _ LA.out.1 LA.out.2 (by omega) (by omega)).mono ?_;rintro e_ w5_ ⟨rfl,wg⟩;exact ⟨_,rfl,by (try dsimp only);rw [Rg.dR (by decide)];exact wu.keep wg,⟨_,_,_,_,rfl⟩,ck.below wg⟩
  ·unfold Rg.aj
   intro zZ w_ l_ wV wu xY xQ xl xZ wU hr;have e22:zZ.tmps[22]?=some (wV 5):=hr 22 (by decide);refine ⟨rfl,?_⟩;rw [if_pos (by decide)];obtain ⟨X_,Y_,E_,q_,A_⟩:=xY 5 (by decide) (xZ 5 (by kernel_rfl));rw [A_] at e22;refine Rg.mw (x:=.tuple #[.agg #[.int .i64 X_,.int .i64 Y_,.int .i64 E_],.bool q_]) (w2:=w_) (by (first | (go_simp;done) | (go_simp;exact Rg.wr (by omega) (by omega)) | (go_simp;omega) | (go_simp;rfl) | (go_simp;exact ⟨rfl,rfl⟩))) ?_;exact ⟨by (try dsimp only);rw [Rg.dR (by decide)];exact wu,⟨_,_,_,_,rfl⟩,ck.self _ _⟩
  ·unfold Rg.aj
   intro zZ w_ l_ wV wu xY xQ xl xZ wU hr;have e16:zZ.tmps[16]?=some (wV 6):=hr 16 (by decide);refine ⟨rfl,?_⟩;rw [if_pos (by decide)];obtain ⟨X_,Y_,E_,q_,A_⟩:=xY 6 (by decide) (xZ 6 (by kernel_rfl));rw [A_] at e16;refine Rg.mw (x:=.agg #[.int .i64 X_,.int .i64 Y_,.int .i64 E_]) (w2:=w_) (by (first | (go_simp;done) | (go_simp;exact Rg.wr (by omega) (by omega)) | (go_simp;omega) | (go_simp;rfl) | (go_simp;exact ⟨rfl,rfl⟩))) ?_;exact ⟨by (try dsimp only);rw [Rg.dR (by decide)];exact wu,⟨_,_,_,rfl⟩,ck.self _ _⟩
  ·unfold Rg.aj
   intro zZ w_ l_ wV wu xY xQ xl xZ wU hr;have e16:zZ.tmps[16]?=some (wV 6):=hr 16 (by decide);refine ⟨rfl,?_⟩;rw [if_pos (by decide)];obtain ⟨X_,Y_,E_,q_,A_⟩:=xY 6 (by decide) (xZ 6 (by kernel_rfl));rw [A_] at e16;refine Rg.mw (x:=.bool q_) (w2:=w_) (by (first | (go_simp;done) | (go_simp;exact Rg.wr (by omega) (by omega)) | (go_simp;omega) | (go_simp;rfl) | (go_simp;exact ⟨rfl,rfl⟩))) ?_;exact ⟨by (try dsimp only);rw [Rg.dR (by decide)];exact wu,⟨_,rfl⟩,ck.self _ _⟩
  ·unfold Rg.aj
   intro zZ w_ l_ wV wu xY xQ xl xZ wU hr;refine ⟨rfl,?_⟩;rw [if_pos (by decide)];refine Rg.Lx (x:=.pointer (some ⟨w_.heap.size,0,none⟩)) (ob:=.cells #[.int .i64 0,.int .i64 0,.int .i64 0] 27) (by (first | (go_simp;done) | (go_simp;exact Rg.wr (by omega) (by omega)) | (go_simp;omega) | (go_simp;rfl) | (go_simp;exact ⟨rfl,rfl⟩))) ?_;exact ⟨by (try dsimp only);rw [Rg.dR (by decide)];exact wu.keep (bA _ _),⟨_,rfl,wu.2.size,⟨0,0,0,aH.new _ _ _⟩⟩,ck.below (bA _ _)⟩
  ·unfold Rg.aj
   intro zZ w_ l_ wV wu xY xQ xl xZ wU hr;have e6:zZ.tmps[6]?=some (wV 9):=hr 6 (by decide);have e23:zZ.tmps[23]?=some (wV 7):=hr 23 (by decide);refine ⟨rfl,?_⟩;rw [if_pos (by decide)];obtain ⟨h_,eh_,ww,H3⟩:=xY 9 (by decide) (xZ 9 (by kernel_rfl));rw [eh_] at e6;obtain ⟨X_,Y_,E_,A_⟩:=xY 7 (by decide) (xZ 7 (by kernel_rfl));rw [A_] at e23
   have ws:AS F8 g B v n ((K+20+2)+Rg.Aq [(3,2)] (Rg.upd l_ 10)) (((w_.setCell ⟨h_,0,none⟩ (.int .i64 X_)).setCell ⟨h_,1,none⟩ (.int .i64 Y_)).setCell ⟨h_,2,none⟩ (.int .i64 E_))∧True∧ck F8.heap.size w_ (((w_.setCell ⟨h_,0,none⟩ (.int .i64 X_)).setCell ⟨h_,1,none⟩ (.int .i64 Y_)).setCell ⟨h_,2,none⟩ (.int .i64 E_)):=⟨by (try dsimp only);rw [Rg.dR (by decide)];exact ((wu.put (by omega) (by omega) ww 0 _).put (by omega) (by omega) ww 1 _).put (by omega) (by omega) ww 2 _,trivial,ck.put H3 _ _ _⟩
   obtain ⟨X0_,Y0_,E0_,H3⟩:=H3;have ⟨AV,AW,Ej,AX,AY,Di⟩:=H3.cG;unfold Oper.wp
   go_simp
   all_goals first | exact ws | exact ws.1 | exact ⟨undef,ws⟩ | exact ⟨_,rfl,ws⟩
  ·unfold Rg.aj
   intro zZ w_ l_ wV wu xY xQ xl xZ wU hr;have e24:zZ.tmps[24]?=some (wV 8):=hr 24 (by decide);refine ⟨rfl,?_⟩;rw [if_pos (by decide)];obtain ⟨q_,A_⟩:=xY 8 (by decide) (xZ 8 (by kernel_rfl));rw [A_] at e24;refine Rg.mw (x:=.bool q_) (w2:=w_) (by (first | (go_simp;done) | (go_simp;exact Rg.wr (by omega) (by omega)) | (go_simp;omega) | (go_simp;rfl) | (go_simp;exact ⟨rfl,rfl⟩))) ?_;exact ⟨by (try dsimp only);rw [Rg.dR (by decide)];exact wu,⟨_,rfl⟩,ck.self _ _⟩
  intro vals wz wu hF hv;obtain ⟨h_,zB,ww,XN,YN,EN,N⟩:=hF 9 (by decide);obtain ⟨ok,xu⟩:=hF 11 (by decide);simp only [Rg.bE,Rg.fill,Act.put,Nat.reduceAdd];clear hv hF;simp only [zB,xu];clear zB xu;replace wu:AS F8 g B v n ((K+20+2)+2) wz:=wu;replace st:=st.call wu.1 wu.2;replace R:=R.aW wu.2 nR;replace Q:=Q.aW wu.2 nQ;replace C:=C.aW wu.2 nC;replace U:=U.aW wu.2 nU;have szz:=wu.2.size;clear wu;have ⟨DE,DF,DG,xT,xU,zv⟩:=U.cG;have DH:=U.lt;have ⟨N_0,N_1,N_2,N_f0,N_f1,N_f2⟩:=N.cG;have N_l:=N.lt;cases ok
  ·go_wp2
   go_meet
   exact ⟨st.up (by omega),R,Q,C,⟨X,Y,E,U⟩⟩
  go_wp2
  go_meet
  exact ⟨((((st.aV (c:=G+1) (o:=0) (by omega) (by omega) (by omega) _).aV (c:=G+1) (o:=1) (by omega) (by omega) (by omega) _).aV (c:=G+1) (o:=2) (by omega) (by omega) (by omega) _)).up (by omega),((R.other (by omega) _).other (by omega) _).other (by omega) _,((Q.other (by omega) _).other (by omega) _).other (by omega) _,((C.other (by omega) _).other (by omega) _).other (by omega) _,⟨XN,YN,EN,U.rZ _ _ _⟩⟩
 case rest=>as_aux_lemma=>
 clear st R Q C U;obtain ⟨st,R,Q,C,X1,Y1,E1,U⟩:=hcut;clear LA;have szx:=U.lt
 go_wp2_with fail
 refine (ci g B v n _ 24 _ st.cur (by omega) (by omega) (by omega)).mono ?_;rintro e BQ ⟨x,rfl,⟨Hl,Hk⟩,wU,j_⟩;replace st:=st.call wU j_;have HN:=j_.size;replace R:=R.aW j_ nR;replace Q:=Q.aW j_ nQ;replace C:=C.aW j_ nC;replace U:=U.aW j_ nU;clear wU j_
 by_cases x0:x=0
 ·subst x0
  have ⟨DE,DF,DG,xT,xU,zv⟩:=U.cG;have DH:=U.lt
  go_wp2_with fail
  clear DE DF DG xT xU zv DH;have yA:=st;replace st:=st.alloc (.cells #[.int .i64 10001,.int .i64 (-10001),.int .i64 (wrap64 (X1+1))] 3);replace R:=R.alloc (.cells #[.int .i64 10001,.int .i64 (-10001),.int .i64 (wrap64 (X1+1))] 3);replace Q:=Q.alloc (.cells #[.int .i64 10001,.int .i64 (-10001),.int .i64 (wrap64 (X1+1))] 3);replace C:=C.alloc (.cells #[.int .i64 10001,.int .i64 (-10001),.int .i64 (wrap64 (X1+1))] 3);replace U:=U.alloc (.cells #[.int .i64 10001,.int .i64 (-10001),.int .i64 (wrap64 (X1+1))] 3);refine (bq g B v n _ [10001,-10001,wrap64 (X1+1)] (BQ).heap.size 3 _ st.cur (by omega) rfl (by omega) (by omega) (by have:=yA.size;omega) (bP _ _ _)).mono ?_;rintro e BR ⟨y,rfl,-,wU,j_⟩;replace st:=st.call wU j_;have BN:=j_.size;replace R:=R.aW j_ nR;replace Q:=Q.aW j_ nQ;replace C:=C.aW j_ nC;replace U:=U.aW j_ nU;clear wU j_;clear yA;have ⟨DE,DF,DG,xT,xU,zv⟩:=U.cG;have DH:=U.lt
  go_upto_region 18 with fail
  clear DE DF DG xT xU zv DH;replace U:aH _ (G+1) 27 #[.int .i64 y,.int .i64 Y1,.int .i64 E1]:=U.set 0 (.int .i64 y);replace st:=st.aV (c:=G+1) (o:=0) (by omega) (by omega) (by omega) (.int .i64 y);replace R:=R.other (k:=G+1) (i:=0) (by omega) (.int .i64 y);replace Q:=Q.other (k:=G+1) (i:=0) (by omega) (.int .i64 y);replace C:=C.other (k:=G+1) (i:=0) (by omega) (.int .i64 y);generalize BR.setCell ⟨G+1,0,none⟩ (.int .i64 y)=w8 at *
  have TW:zA w g B v n (K+100) w.heap.size (w.heap.size+1) [(G,25,#[.int .i64 a,.int .i64 b]),(G+1,27,#[.int .i64 y,.int .i64 Y1,.int .i64 E1])] 25 27 _ _ w8:=⟨⟨st.cur.mono (by omega),st.gr⟩,fun x hx=>(by rcases List.mem_cons.1 hx with rfl | hx;exact C;rcases List.mem_cons.1 hx with rfl | hx;exact U;cases hx),R,Q,⟨wQ _,by omega,by omega,by omega,by omega⟩,fun x hx=>(by rcases List.mem_cons.1 hx with rfl | hx;(show w.heap.size+1<G;omega);rcases List.mem_cons.1 hx with rfl | hx;(show w.heap.size+1<G+1;omega);cases hx)⟩
  clear st R Q C U;refine Rg.gM (fun l W=>zA w g B v n (K+100) w.heap.size (w.heap.size+1) [(G,25,#[.int .i64 a,.int .i64 b]),(G+1,27,#[.int .i64 y,.int .i64 Y1,.int .i64 E1])] 25 27 (bif l 2 then #[.int .i64 a,.int .i64 b] else #[.int .i64 0,.int .i64 0]) (bif l 3 then #[.int .i64 y,.int .i64 Y1,.int .i64 E1] else #[.int .i64 0,.int .i64 0,.int .i64 0]) W) (fun _ _ _=>True) (fun _ _=>True) [2,3] [.agg #[.int .i64 a,.int .i64 b],.agg #[.int .i64 y,.int .i64 Y1,.int .i64 E1],undef,undef] (by kernel_rfl) (by kernel_rfl) (by decide) (fun l l2 W h q=>by rw [←h 2 (by decide),←h 3 (by decide)];exact q) (fun _ _ _ _ _ _=>trivial) TW.drew ⟨?_,?_,?_,?_,trivial⟩ ?_
  ·unfold Rg.aj
   intro zZ w_ l_ wV wu xY xQ xl xZ wU hr;refine ⟨rfl,?_⟩;rw [if_neg (by decide)];have e4:zZ.tmps[4]?=some (.pointer (some ⟨G,0,none⟩)):=hr 4 (by decide);have wt:aH w_ G 25 #[.int .i64 a,.int .i64 b]:=wu.hV (G,25,#[.int .i64 a,.int .i64 b]) (by simp);have ⟨k0,k1,_,_,_⟩:=wt.box
   (first | (go_simp;done) | (go_simp;exact Rg.wr (by omega) (by omega)) | (go_simp;omega) | (go_simp;rfl) | (go_simp;exact ⟨rfl,rfl⟩))
  ·unfold Rg.aj
   intro zZ w_ l_ wV wu xY xQ xl xZ wU hr;refine ⟨rfl,?_⟩;rw [if_neg (by decide)];have e5:zZ.tmps[5]?=some (.pointer (some ⟨G+1,0,none⟩)):=hr 5 (by decide);have wt:aH w_ (G+1) 27 #[.int .i64 y,.int .i64 Y1,.int .i64 E1]:=wu.hV (G+1,27,#[.int .i64 y,.int .i64 Y1,.int .i64 E1]) (by simp);have ⟨k0,k1,k2⟩:=wt.aO
   (first | (go_simp;done) | (go_simp;exact Rg.wr (by omega) (by omega)) | (go_simp;omega) | (go_simp;rfl) | (go_simp;exact ⟨rfl,rfl⟩))
  ·unfold Rg.aj
   intro zZ w_ l_ wV wu xY xQ xl xZ wU hr;have e2:zZ.tmps[2]?=some (.pointer (some ⟨w.heap.size,0,none⟩)):=hr 2 (by decide);have Hy:zZ.tmps[68]?=some (.agg #[.int .i64 a,.int .i64 b]):=hr 68 (by decide);refine ⟨rfl,?_⟩;rw [if_pos (by decide)];have q_:=wu;simp only [xQ,cond_false] at q_;have ws:=And.intro (q_.kV (.int .i64 a) (.int .i64 b)) (And.intro True.intro True.intro)
   skip
   have ⟨AV,AW,AX,AY,_⟩:=q_.R.box;unfold Oper.wp
   go_simp
   all_goals first | exact ws | exact ws.1 | exact ⟨undef,ws⟩ | exact ⟨_,rfl,ws⟩
  ·unfold Rg.aj
   intro zZ w_ l_ wV wu xY xQ xl xZ wU hr;have e3:zZ.tmps[3]?=some (.pointer (some ⟨w.heap.size+1,0,none⟩)):=hr 3 (by decide);have Hz:zZ.tmps[69]?=some (.agg #[.int .i64 y,.int .i64 Y1,.int .i64 E1]):=hr 69 (by decide);refine ⟨rfl,?_⟩;rw [if_pos (by decide)];have q_:=wu;simp only [xQ,cond_false] at q_;have ws:=And.intro (q_.jT (.int .i64 y) (.int .i64 Y1) (.int .i64 E1)) (And.intro True.intro True.intro);have ⟨AV,AW,Ej,AX,AY,Di⟩:=q_.Q.cG;unfold Oper.wp
   go_simp
   all_goals first | exact ws | exact ws.1 | exact ⟨undef,ws⟩ | exact ⟨_,rfl,ws⟩
  intro vals wz wu hF hv;simp only [Rg.bE,Rg.fill,Act.put,Nat.reduceAdd];clear hv hF;simp only [cond_true] at wu;obtain ⟨⟨wU,j_⟩,-,R,Q,-,-⟩:=wu;have ⟨AO,AP,o_,p_,AQ⟩:=R.box;have ⟨Bi,Bj,Bk,yt,yu,yv⟩:=Q.cG;have Bl:=Q.lt;go_wp2;exact bodyPost_ret (v:=.tuple #[.agg #[.int .i64 a,.int .i64 b],.agg #[.int .i64 y,.int .i64 Y1,.int .i64 E1]]) (by simp [results,Tryz.results99,go_sem, *]) rfl (⟨a,b,y,Y1,E1,rfl,wU.mono (by omega),j_⟩)
 by_cases x1:x=1
 ·subst x1
  have ⟨DE,DF,DG,xT,xU,zv⟩:=U.cG;have DH:=U.lt
  go_wp2_with fail
  clear DE DF DG xT xU zv DH;have yA:=st;replace st:=st.alloc (.cells #[.int .i64 (wrap64 (Y1+1)),.int .i64 4611686018427387904,.int .i64 (-9223372036854775808)] 3);replace R:=R.alloc (.cells #[.int .i64 (wrap64 (Y1+1)),.int .i64 4611686018427387904,.int .i64 (-9223372036854775808)] 3);replace Q:=Q.alloc (.cells #[.int .i64 (wrap64 (Y1+1)),.int .i64 4611686018427387904,.int .i64 (-9223372036854775808)] 3);replace C:=C.alloc (.cells #[.int .i64 (wrap64 (Y1+1)),.int .i64 4611686018427387904,.int .i64 (-9223372036854775808)] 3);replace U:=U.alloc (.cells #[.int .i64 (wrap64 (Y1+1)),.int .i64 4611686018427387904,.int .i64 (-9223372036854775808)] 3);refine (bq g B v n _ [wrap64 (Y1+1),4611686018427387904,-9223372036854775808] (BQ).heap.size 3 _ st.cur (by omega) rfl (by omega) (by omega) (by have:=yA.size;omega) (bP _ _ _)).mono ?_;rintro e BR ⟨y,rfl,-,wU,j_⟩;replace st:=st.call wU j_;have BN:=j_.size;replace R:=R.aW j_ nR;replace Q:=Q.aW j_ nQ;replace C:=C.aW j_ nC;replace U:=U.aW j_ nU;clear wU j_;clear yA;have ⟨DE,DF,DG,xT,xU,zv⟩:=U.cG;have DH:=U.lt
  go_upto_region 18 with fail
  clear DE DF DG xT xU zv DH;replace U:aH _ (G+1) 27 #[.int .i64 X1,.int .i64 y,.int .i64 E1]:=U.set 1 (.int .i64 y);replace st:=st.aV (c:=G+1) (o:=1) (by omega) (by omega) (by omega) (.int .i64 y);replace R:=R.other (k:=G+1) (i:=1) (by omega) (.int .i64 y);replace Q:=Q.other (k:=G+1) (i:=1) (by omega) (.int .i64 y);replace C:=C.other (k:=G+1) (i:=1) (by omega) (.int .i64 y);generalize BR.setCell ⟨G+1,1,none⟩ (.int .i64 y)=w8 at *
  have TW:zA w g B v n (K+100) w.heap.size (w.heap.size+1) [(G,25,#[.int .i64 a,.int .i64 b]),(G+1,27,#[.int .i64 X1,.int .i64 y,.int .i64 E1])] 25 27 _ _ w8:=⟨⟨st.cur.mono (by omega),st.gr⟩,fun x hx=>(by rcases List.mem_cons.1 hx with rfl | hx;exact C;rcases List.mem_cons.1 hx with rfl | hx;exact U;cases hx),R,Q,⟨wQ _,by omega,by omega,by omega,by omega⟩,fun x hx=>(by rcases List.mem_cons.1 hx with rfl | hx;(show w.heap.size+1<G;omega);rcases List.mem_cons.1 hx with rfl | hx;(show w.heap.size+1<G+1;omega);cases hx)⟩
  clear st R Q C U;refine Rg.gM (fun l W=>zA w g B v n (K+100) w.heap.size (w.heap.size+1) [(G,25,#[.int .i64 a,.int .i64 b]),(G+1,27,#[.int .i64 X1,.int .i64 y,.int .i64 E1])] 25 27 (bif l 2 then #[.int .i64 a,.int .i64 b] else #[.int .i64 0,.int .i64 0]) (bif l 3 then #[.int .i64 X1,.int .i64 y,.int .i64 E1] else #[.int .i64 0,.int .i64 0,.int .i64 0]) W) (fun _ _ _=>True) (fun _ _=>True) [2,3] [.agg #[.int .i64 a,.int .i64 b],.agg #[.int .i64 X1,.int .i64 y,.int .i64 E1],undef,undef] (by kernel_rfl) (by kernel_rfl) (by decide) (fun l l2 W h q=>by rw [←h 2 (by decide),←h 3 (by decide)];exact q) (fun _ _ _ _ _ _=>trivial) TW.drew ⟨?_,?_,?_,?_,trivial⟩ ?_
  ·unfold Rg.aj
   intro zZ w_ l_ wV wu xY xQ xl xZ wU hr;refine ⟨rfl,?_⟩;rw [if_neg (by decide)];have e4:zZ.tmps[4]?=some (.pointer (some ⟨G,0,none⟩)):=hr 4 (by decide);have wt:aH w_ G 25 #[.int .i64 a,.int .i64 b]:=wu.hV (G,25,#[.int .i64 a,.int .i64 b]) (by simp);have ⟨k0,k1,_,_,_⟩:=wt.box
   (first | (go_simp;done) | (go_simp;exact Rg.wr (by omega) (by omega)) | (go_simp;omega) | (go_simp;rfl) | (go_simp;exact ⟨rfl,rfl⟩))
  ·unfold Rg.aj
   intro zZ w_ l_ wV wu xY xQ xl xZ wU hr;refine ⟨rfl,?_⟩;rw [if_neg (by decide)];have e5:zZ.tmps[5]?=some (.pointer (some ⟨G+1,0,none⟩)):=hr 5 (by decide);have wt:aH w_ (G+1) 27 #[.int .i64 X1,.int .i64 y,.int .i64 E1]:=wu.hV (G+1,27,#[.int .i64 X1,.int .i64 y,.int .i64 E1]) (by simp);have ⟨k0,k1,k2⟩:=wt.aO
   (first | (go_simp;done) | (go_simp;exact Rg.wr (by omega) (by omega)) | (go_simp;omega) | (go_simp;rfl) | (go_simp;exact ⟨rfl,rfl⟩))
  ·unfold Rg.aj
   intro zZ w_ l_ wV wu xY xQ xl xZ wU hr;have e2:zZ.tmps[2]?=some (.pointer (some ⟨w.heap.size,0,none⟩)):=hr 2 (by decide);have Hy:zZ.tmps[68]?=some (.agg #[.int .i64 a,.int .i64 b]):=hr 68 (by decide);refine ⟨rfl,?_⟩;rw [if_pos (by decide)];have q_:=wu;simp only [xQ,cond_false] at q_;have ws:=And.intro (q_.kV (.int .i64 a) (.int .i64 b)) (And.intro True.intro True.intro)
   skip
   have ⟨AV,AW,AX,AY,_⟩:=q_.R.box;unfold Oper.wp
   go_simp
   all_goals first | exact ws | exact ws.1 | exact ⟨undef,ws⟩ | exact ⟨_,rfl,ws⟩
  ·unfold Rg.aj
   intro zZ w_ l_ wV wu xY xQ xl xZ wU hr;have e3:zZ.tmps[3]?=some (.pointer (some ⟨w.heap.size+1,0,none⟩)):=hr 3 (by decide);have Hz:zZ.tmps[69]?=some (.agg #[.int .i64 X1,.int .i64 y,.int .i64 E1]):=hr 69 (by decide);refine ⟨rfl,?_⟩;rw [if_pos (by decide)];have q_:=wu;simp only [xQ,cond_false] at q_;have ws:=And.intro (q_.jT (.int .i64 X1) (.int .i64 y) (.int .i64 E1)) (And.intro True.intro True.intro);have ⟨AV,AW,Ej,AX,AY,Di⟩:=q_.Q.cG;unfold Oper.wp
   go_simp
   all_goals first | exact ws | exact ws.1 | exact ⟨undef,ws⟩ | exact ⟨_,rfl,ws⟩
  intro vals wz wu hF hv;simp only [Rg.bE,Rg.fill,Act.put,Nat.reduceAdd];clear hv hF;simp only [cond_true] at wu;obtain ⟨⟨wU,j_⟩,-,R,Q,-,-⟩:=wu;have ⟨AO,AP,o_,p_,AQ⟩:=R.box;have ⟨Bi,Bj,Bk,yt,yu,yv⟩:=Q.cG;have Bl:=Q.lt;go_wp2;exact bodyPost_ret (v:=.tuple #[.agg #[.int .i64 a,.int .i64 b],.agg #[.int .i64 X1,.int .i64 y,.int .i64 E1]]) (by simp [results,Tryz.results99,go_sem, *]) rfl (⟨a,b,X1,y,E1,rfl,wU.mono (by omega),j_⟩)
 by_cases x2:x=2
 ·subst x2
  go_wp2_with fail
  have yA:=st;replace st:=st.alloc (.cells #[.int .i64 (-1),.int .i64 0,.int .i64 2,.int .i64 21] 3);replace R:=R.alloc (.cells #[.int .i64 (-1),.int .i64 0,.int .i64 2,.int .i64 21] 3);replace Q:=Q.alloc (.cells #[.int .i64 (-1),.int .i64 0,.int .i64 2,.int .i64 21] 3);replace C:=C.alloc (.cells #[.int .i64 (-1),.int .i64 0,.int .i64 2,.int .i64 21] 3);replace U:=U.alloc (.cells #[.int .i64 (-1),.int .i64 0,.int .i64 2,.int .i64 21] 3);refine (bq g B v n _ [-1,0,2,21] (BQ).heap.size 4 _ st.cur (by omega) rfl (by omega) (by omega) (by have:=yA.size;omega) (bP _ _ _)).mono ?_;rintro e BR ⟨y,rfl,-,wU,j_⟩;replace st:=st.call wU j_;have BN:=j_.size;replace R:=R.aW j_ nR;replace Q:=Q.aW j_ nQ;replace C:=C.aW j_ nC;replace U:=U.aW j_ nU;clear wU j_;clear yA;have ⟨DE,DF,DG,xT,xU,zv⟩:=U.cG;have DH:=U.lt
  go_upto_region 18 with fail
  clear DE DF DG xT xU zv DH;replace U:aH _ (G+1) 27 #[.int .i64 X1,.int .i64 Y1,.int .i64 y]:=U.set 2 (.int .i64 y);replace st:=st.aV (c:=G+1) (o:=2) (by omega) (by omega) (by omega) (.int .i64 y);replace R:=R.other (k:=G+1) (i:=2) (by omega) (.int .i64 y);replace Q:=Q.other (k:=G+1) (i:=2) (by omega) (.int .i64 y);replace C:=C.other (k:=G+1) (i:=2) (by omega) (.int .i64 y);generalize BR.setCell ⟨G+1,2,none⟩ (.int .i64 y)=w8 at *
  have TW:zA w g B v n (K+100) w.heap.size (w.heap.size+1) [(G,25,#[.int .i64 a,.int .i64 b]),(G+1,27,#[.int .i64 X1,.int .i64 Y1,.int .i64 y])] 25 27 _ _ w8:=⟨⟨st.cur.mono (by omega),st.gr⟩,fun x hx=>(by rcases List.mem_cons.1 hx with rfl | hx;exact C;rcases List.mem_cons.1 hx with rfl | hx;exact U;cases hx),R,Q,⟨wQ _,by omega,by omega,by omega,by omega⟩,fun x hx=>(by rcases List.mem_cons.1 hx with rfl | hx;(show w.heap.size+1<G;omega);rcases List.mem_cons.1 hx with rfl | hx;(show w.heap.size+1<G+1;omega);cases hx)⟩
  clear st R Q C U;refine Rg.gM (fun l W=>zA w g B v n (K+100) w.heap.size (w.heap.size+1) [(G,25,#[.int .i64 a,.int .i64 b]),(G+1,27,#[.int .i64 X1,.int .i64 Y1,.int .i64 y])] 25 27 (bif l 2 then #[.int .i64 a,.int .i64 b] else #[.int .i64 0,.int .i64 0]) (bif l 3 then #[.int .i64 X1,.int .i64 Y1,.int .i64 y] else #[.int .i64 0,.int .i64 0,.int .i64 0]) W) (fun _ _ _=>True) (fun _ _=>True) [2,3] [.agg #[.int .i64 a,.int .i64 b],.agg #[.int .i64 X1,.int .i64 Y1,.int .i64 y],undef,undef] (by kernel_rfl) (by kernel_rfl) (by decide) (fun l l2 W h q=>by rw [←h 2 (by decide),←h 3 (by decide)];exact q) (fun _ _ _ _ _ _=>trivial) TW.drew ⟨?_,?_,?_,?_,trivial⟩ ?_
  ·unfold Rg.aj
   intro zZ w_ l_ wV wu xY xQ xl xZ wU hr;refine ⟨rfl,?_⟩;rw [if_neg (by decide)];have e4:zZ.tmps[4]?=some (.pointer (some ⟨G,0,none⟩)):=hr 4 (by decide);have wt:aH w_ G 25 #[.int .i64 a,.int .i64 b]:=wu.hV (G,25,#[.int .i64 a,.int .i64 b]) (by simp);have ⟨k0,k1,_,_,_⟩:=wt.box
   (first | (go_simp;done) | (go_simp;exact Rg.wr (by omega) (by omega)) | (go_simp;omega) | (go_simp;rfl) | (go_simp;exact ⟨rfl,rfl⟩))
  ·unfold Rg.aj
   intro zZ w_ l_ wV wu xY xQ xl xZ wU hr;refine ⟨rfl,?_⟩;rw [if_neg (by decide)];have e5:zZ.tmps[5]?=some (.pointer (some ⟨G+1,0,none⟩)):=hr 5 (by decide);have wt:aH w_ (G+1) 27 #[.int .i64 X1,.int .i64 Y1,.int .i64 y]:=wu.hV (G+1,27,#[.int .i64 X1,.int .i64 Y1,.int .i64 y]) (by simp);have ⟨k0,k1,k2⟩:=wt.aO
   (first | (go_simp;done) | (go_simp;exact Rg.wr (by omega) (by omega)) | (go_simp;omega) | (go_simp;rfl) | (go_simp;exact ⟨rfl,rfl⟩))
  ·unfold Rg.aj
   intro zZ w_ l_ wV wu xY xQ xl xZ wU hr;have e2:zZ.tmps[2]?=some (.pointer (some ⟨w.heap.size,0,none⟩)):=hr 2 (by decide);have Hy:zZ.tmps[68]?=some (.agg #[.int .i64 a,.int .i64 b]):=hr 68 (by decide);refine ⟨rfl,?_⟩;rw [if_pos (by decide)];have q_:=wu;simp only [xQ,cond_false] at q_;have ws:=And.intro (q_.kV (.int .i64 a) (.int .i64 b)) (And.intro True.intro True.intro)
   skip
   have ⟨AV,AW,AX,AY,_⟩:=q_.R.box;unfold Oper.wp
   go_simp
   all_goals first | exact ws | exact ws.1 | exact ⟨undef,ws⟩ | exact ⟨_,rfl,ws⟩
  ·unfold Rg.aj
   intro zZ w_ l_ wV wu xY xQ xl xZ wU hr;have e3:zZ.tmps[3]?=some (.pointer (some ⟨w.heap.size+1,0,none⟩)):=hr 3 (by decide);have Hz:zZ.tmps[69]?=some (.agg #[.int .i64 X1,.int .i64 Y1,.int .i64 y]):=hr 69 (by decide);refine ⟨rfl,?_⟩;rw [if_pos (by decide)];have q_:=wu;simp only [xQ,cond_false] at q_;have ws:=And.intro (q_.jT (.int .i64 X1) (.int .i64 Y1) (.int .i64 y)) (And.intro True.intro True.intro);have ⟨AV,AW,Ej,AX,AY,Di⟩:=q_.Q.cG;unfold Oper.wp
   go_simp
   all_goals first | exact ws | exact ws.1 | exact ⟨undef,ws⟩ | exact ⟨_,rfl,ws⟩
  intro vals wz wu hF hv;simp only [Rg.bE,Rg.fill,Act.put,Nat.reduceAdd];clear hv hF;simp only [cond_true] at wu;obtain ⟨⟨wU,j_⟩,-,R,Q,-,-⟩:=wu;have ⟨AO,AP,o_,p_,AQ⟩:=R.box;have ⟨Bi,Bj,Bk,yt,yu,yv⟩:=Q.cG;have Bl:=Q.lt;go_wp2;exact bodyPost_ret (v:=.tuple #[.agg #[.int .i64 a,.int .i64 b],.agg #[.int .i64 X1,.int .i64 Y1,.int .i64 y]]) (by simp [results,Tryz.results99,go_sem, *]) rfl (⟨a,b,X1,Y1,y,rfl,wU.mono (by omega),j_⟩)
 by_cases x3:x=3
 ·subst x3
  go_wp2_with fail
  refine (ii g B v n _ _ st.cur (by omega)).mono ?_;rintro e BR ⟨a2,b2,rfl,wU,j_⟩;replace st:=st.call wU j_;have BN:=j_.size;replace R:=R.aW j_ nR;replace Q:=Q.aW j_ nQ;replace C:=C.aW j_ nC;replace U:=U.aW j_ nU;clear wU j_;have ⟨C_0,C_1,Id,Ie,C_l⟩:=C.box
  go_upto_region 18 with fail
  clear C_0 C_1 Id Ie C_l;replace C:=C.set2 (.int .i64 a2) (.int .i64 b2);replace R:=(R.other (k:=G) (i:=0) (by omega) (.int .i64 a2)).other (k:=G) (i:=1) (by omega) (.int .i64 b2);replace Q:=(Q.other (k:=G) (i:=0) (by omega) (.int .i64 a2)).other (k:=G) (i:=1) (by omega) (.int .i64 b2);replace U:=(U.other (k:=G) (i:=0) (by omega) (.int .i64 a2)).other (k:=G) (i:=1) (by omega) (.int .i64 b2);replace st:=(st.aV (c:=G) (o:=0) (by omega) (by omega) (by omega) (.int .i64 a2)).aV (c:=G) (o:=1) (by omega) (by omega) (by omega) (.int .i64 b2);generalize (BR.setCell ⟨G,0,none⟩ (.int .i64 a2)).setCell ⟨G,1,none⟩ (.int .i64 b2)=w8 at *
  have TW:zA w g B v n (K+100) w.heap.size (w.heap.size+1) [(G,25,#[.int .i64 a2,.int .i64 b2]),(G+1,27,#[.int .i64 X1,.int .i64 Y1,.int .i64 E1])] 25 27 _ _ w8:=⟨⟨st.cur.mono (by omega),st.gr⟩,fun x hx=>(by rcases List.mem_cons.1 hx with rfl | hx;exact C;rcases List.mem_cons.1 hx with rfl | hx;exact U;cases hx),R,Q,⟨wQ _,by omega,by omega,by omega,by omega⟩,fun x hx=>(by rcases List.mem_cons.1 hx with rfl | hx;(show w.heap.size+1<G;omega);rcases List.mem_cons.1 hx with rfl | hx;(show w.heap.size+1<G+1;omega);cases hx)⟩
  clear st R Q C U;refine Rg.gM (fun l W=>zA w g B v n (K+100) w.heap.size (w.heap.size+1) [(G,25,#[.int .i64 a2,.int .i64 b2]),(G+1,27,#[.int .i64 X1,.int .i64 Y1,.int .i64 E1])] 25 27 (bif l 2 then #[.int .i64 a2,.int .i64 b2] else #[.int .i64 0,.int .i64 0]) (bif l 3 then #[.int .i64 X1,.int .i64 Y1,.int .i64 E1] else #[.int .i64 0,.int .i64 0,.int .i64 0]) W) (fun _ _ _=>True) (fun _ _=>True) [2,3] [.agg #[.int .i64 a2,.int .i64 b2],.agg #[.int .i64 X1,.int .i64 Y1,.int .i64 E1],undef,undef] (by kernel_rfl) (by kernel_rfl) (by decide) (fun l l2 W h q=>by rw [←h 2 (by decide),←h 3 (by decide)];exact q) (fun _ _ _ _ _ _=>trivial) TW.drew ⟨?_,?_,?_,?_,trivial⟩ ?_
  ·unfold Rg.aj
   intro zZ w_ l_ wV wu xY xQ xl xZ wU hr;refine ⟨rfl,?_⟩;rw [if_neg (by decide)];have e4:zZ.tmps[4]?=some (.pointer (some ⟨G,0,none⟩)):=hr 4 (by decide);have wt:aH w_ G 25 #[.int .i64 a2,.int .i64 b2]:=wu.hV (G,25,#[.int .i64 a2,.int .i64 b2]) (by simp);have ⟨k0,k1,_,_,_⟩:=wt.box
   (first | (go_simp;done) | (go_simp;exact Rg.wr (by omega) (by omega)) | (go_simp;omega) | (go_simp;rfl) | (go_simp;exact ⟨rfl,rfl⟩))
  ·unfold Rg.aj
   intro zZ w_ l_ wV wu xY xQ xl xZ wU hr;refine ⟨rfl,?_⟩;rw [if_neg (by decide)];have e5:zZ.tmps[5]?=some (.pointer (some ⟨G+1,0,none⟩)):=hr 5 (by decide);have wt:aH w_ (G+1) 27 #[.int .i64 X1,.int .i64 Y1,.int .i64 E1]:=wu.hV (G+1,27,#[.int .i64 X1,.int .i64 Y1,.int .i64 E1]) (by simp);have ⟨k0,k1,k2⟩:=wt.aO
   (first | (go_simp;done) | (go_simp;exact Rg.wr (by omega) (by omega)) | (go_simp;omega) | (go_simp;rfl) | (go_simp;exact ⟨rfl,rfl⟩))
  ·unfold Rg.aj
   intro zZ w_ l_ wV wu xY xQ xl xZ wU hr;have e2:zZ.tmps[2]?=some (.pointer (some ⟨w.heap.size,0,none⟩)):=hr 2 (by decide);have Hy:zZ.tmps[68]?=some (.agg #[.int .i64 a2,.int .i64 b2]):=hr 68 (by decide);refine ⟨rfl,?_⟩;rw [if_pos (by decide)];have q_:=wu;simp only [xQ,cond_false] at q_;have ws:=And.intro (q_.kV (.int .i64 a2) (.int .i64 b2)) (And.intro True.intro True.intro)
   skip
   have ⟨AV,AW,AX,AY,_⟩:=q_.R.box;unfold Oper.wp
   go_simp
   all_goals first | exact ws | exact ws.1 | exact ⟨undef,ws⟩ | exact ⟨_,rfl,ws⟩
  ·unfold Rg.aj
   intro zZ w_ l_ wV wu xY xQ xl xZ wU hr;have e3:zZ.tmps[3]?=some (.pointer (some ⟨w.heap.size+1,0,none⟩)):=hr 3 (by decide);have Hz:zZ.tmps[69]?=some (.agg #[.int .i64 X1,.int .i64 Y1,.int .i64 E1]):=hr 69 (by decide);refine ⟨rfl,?_⟩;rw [if_pos (by decide)];have q_:=wu;simp only [xQ,cond_false] at q_;have ws:=And.intro (q_.jT (.int .i64 X1) (.int .i64 Y1) (.int .i64 E1)) (And.intro True.intro True.intro);have ⟨AV,AW,Ej,AX,AY,Di⟩:=q_.Q.cG;unfold Oper.wp
   go_simp
   all_goals first | exact ws | exact ws.1 | exact ⟨undef,ws⟩ | exact ⟨_,rfl,ws⟩
  intro vals wz wu hF hv;simp only [Rg.bE,Rg.fill,Act.put,Nat.reduceAdd];clear hv hF;simp only [cond_true] at wu;obtain ⟨⟨wU,j_⟩,-,R,Q,-,-⟩:=wu;have ⟨AO,AP,o_,p_,AQ⟩:=R.box;have ⟨Bi,Bj,Bk,yt,yu,yv⟩:=Q.cG;have Bl:=Q.lt;go_wp2;exact bodyPost_ret (v:=.tuple #[.agg #[.int .i64 a2,.int .i64 b2],.agg #[.int .i64 X1,.int .i64 Y1,.int .i64 E1]]) (by simp [results,Tryz.results99,go_sem, *]) rfl (⟨a2,b2,X1,Y1,E1,rfl,wU.mono (by omega),j_⟩)
 by_cases x4:x=4
 ·subst x4
  go_wp2_with fail
  have yA:=st;replace st:=st.alloc (.cells #[.int .i64 10000,.int .i64 10001] 3);replace R:=R.alloc (.cells #[.int .i64 10000,.int .i64 10001] 3);replace Q:=Q.alloc (.cells #[.int .i64 10000,.int .i64 10001] 3);replace C:=C.alloc (.cells #[.int .i64 10000,.int .i64 10001] 3);replace U:=U.alloc (.cells #[.int .i64 10000,.int .i64 10001] 3);refine (bq g B v n _ [10000,10001] (BQ).heap.size 2 _ st.cur (by omega) rfl (by omega) (by omega) (by have:=yA.size;omega) (bP _ _ _)).mono ?_;rintro e BR ⟨y,rfl,-,wU,j_⟩;replace st:=st.call wU j_;have BN:=j_.size;replace R:=R.aW j_ nR;replace Q:=Q.aW j_ nQ;replace C:=C.aW j_ nC;replace U:=U.aW j_ nU;clear wU j_;clear yA
  go_wp2_with fail
  have yA:=st;replace st:=st.alloc (.cells #[.int .i64 1000000,.int .i64 (-1000000)] 3);replace R:=R.alloc (.cells #[.int .i64 1000000,.int .i64 (-1000000)] 3);replace Q:=Q.alloc (.cells #[.int .i64 1000000,.int .i64 (-1000000)] 3);replace C:=C.alloc (.cells #[.int .i64 1000000,.int .i64 (-1000000)] 3);replace U:=U.alloc (.cells #[.int .i64 1000000,.int .i64 (-1000000)] 3);refine (bq g B v n _ [1000000,-1000000] (BR).heap.size 2 _ st.cur (by omega) rfl (by omega) (by omega) (by have:=yA.size;omega) (bP _ _ _)).mono ?_;rintro e w_z ⟨z,rfl,-,wU,j_⟩;replace st:=st.call wU j_;have MW:=j_.size;replace R:=R.aW j_ nR;replace Q:=Q.aW j_ nQ;replace C:=C.aW j_ nC;replace U:=U.aW j_ nU;clear wU j_;clear yA;have ⟨AO,AP,o_,p_,AQ⟩:=R.box;have ⟨Bi,Bj,Bk,yt,yu,yv⟩:=Q.cG;have Bl:=Q.lt;go_wp2;exact bodyPost_ret (v:=.tuple #[.agg #[.int .i64 1,.int .i64 (-10000)],.agg #[.int .i64 y,.int .i64 z,.int .i64 1]]) (by simp [results,Tryz.results99,go_sem, *]) rfl (⟨1,(-10000),y,z,1,rfl,(((((st.aV (c:=w.heap.size) (o:=0) (by omega) (by omega) (by omega) (.int .i64 1)).aV (c:=w.heap.size) (o:=1) (by omega) (by omega) (by omega) (.int .i64 (-10000))).aV (c:=w.heap.size+1) (o:=0) (by omega) (by omega) (by omega) (.int .i64 y)).aV (c:=w.heap.size+1) (o:=1) (by omega) (by omega) (by omega) (.int .i64 z)).aV (c:=w.heap.size+1) (o:=2) (by omega) (by omega) (by omega) (.int .i64 1)).cur.mono (by omega),(((((st.aV (c:=w.heap.size) (o:=0) (by omega) (by omega) (by omega) (.int .i64 1)).aV (c:=w.heap.size) (o:=1) (by omega) (by omega) (by omega) (.int .i64 (-10000))).aV (c:=w.heap.size+1) (o:=0) (by omega) (by omega) (by omega) (.int .i64 y)).aV (c:=w.heap.size+1) (o:=1) (by omega) (by omega) (by omega) (.int .i64 z)).aV (c:=w.heap.size+1) (o:=2) (by omega) (by omega) (by omega) (.int .i64 1)).gr⟩)
 have b0:(x == 0)=false:=by simpa using x0
 have b1:(x == 1)=false:=by simpa using x1
 have b2:(x == 2)=false:=by simpa using x2
 have b3:(x == 3)=false:=by simpa using x3
 have b4:(x == 4)=false:=by simpa using x4
 go_upto_region 18 with fail
 generalize BQ=w8 at *
 have TW:zA w g B v n (K+100) w.heap.size (w.heap.size+1) [(G,25,#[.int .i64 a,.int .i64 b]),(G+1,27,#[.int .i64 X1,.int .i64 Y1,.int .i64 E1])] 25 27 _ _ w8:=⟨⟨st.cur.mono (by omega),st.gr⟩,fun x hx=>(by rcases List.mem_cons.1 hx with rfl | hx;exact C;rcases List.mem_cons.1 hx with rfl | hx;exact U;cases hx),R,Q,⟨wQ _,by omega,by omega,by omega,by omega⟩,fun x hx=>(by rcases List.mem_cons.1 hx with rfl | hx;(show w.heap.size+1<G;omega);rcases List.mem_cons.1 hx with rfl | hx;(show w.heap.size+1<G+1;omega);cases hx)⟩
 clear st R Q C U;refine Rg.gM (fun l W=>zA w g B v n (K+100) w.heap.size (w.heap.size+1) [(G,25,#[.int .i64 a,.int .i64 b]),(G+1,27,#[.int .i64 X1,.int .i64 Y1,.int .i64 E1])] 25 27 (bif l 2 then #[.int .i64 a,.int .i64 b] else #[.int .i64 0,.int .i64 0]) (bif l 3 then #[.int .i64 X1,.int .i64 Y1,.int .i64 E1] else #[.int .i64 0,.int .i64 0,.int .i64 0]) W) (fun _ _ _=>True) (fun _ _=>True) [2,3] [.agg #[.int .i64 a,.int .i64 b],.agg #[.int .i64 X1,.int .i64 Y1,.int .i64 E1],undef,undef] (by kernel_rfl) (by kernel_rfl) (by decide) (fun l l2 W h q=>by rw [←h 2 (by decide),←h 3 (by decide)];exact q) (fun _ _ _ _ _ _=>trivial) TW.drew ⟨?_,?_,?_,?_,trivial⟩ ?_
 ·unfold Rg.aj
  intro zZ w_ l_ wV wu xY xQ xl xZ wU hr;refine ⟨rfl,?_⟩;rw [if_neg (by decide)];have e4:zZ.tmps[4]?=some (.pointer (some ⟨G,0,none⟩)):=hr 4 (by decide);have wt:aH w_ G 25 #[.int .i64 a,.int .i64 b]:=wu.hV (G,25,#[.int .i64 a,.int .i64 b]) (by simp);have ⟨k0,k1,_,_,_⟩:=wt.box
  (first | (go_simp;done) | (go_simp;exact Rg.wr (by omega) (by omega)) | (go_simp;omega) | (go_simp;rfl) | (go_simp;exact ⟨rfl,rfl⟩))
 ·unfold Rg.aj
  intro zZ w_ l_ wV wu xY xQ xl xZ wU hr;refine ⟨rfl,?_⟩;rw [if_neg (by decide)];have e5:zZ.tmps[5]?=some (.pointer (some ⟨G+1,0,none⟩)):=hr 5 (by decide);have wt:aH w_ (G+1) 27 #[.int .i64 X1,.int .i64 Y1,.int .i64 E1]:=wu.hV (G+1,27,#[.int .i64 X1,.int .i64 Y1,.int .i64 E1]) (by simp);have ⟨k0,k1,k2⟩:=wt.aO
  (first | (go_simp;done) | (go_simp;exact Rg.wr (by omega) (by omega)) | (go_simp;omega) | (go_simp;rfl) | (go_simp;exact ⟨rfl,rfl⟩))
 ·unfold Rg.aj
  intro zZ w_ l_ wV wu xY xQ xl xZ wU hr;have e2:zZ.tmps[2]?=some (.pointer (some ⟨w.heap.size,0,none⟩)):=hr 2 (by decide);have Hy:zZ.tmps[68]?=some (.agg #[.int .i64 a,.int .i64 b]):=hr 68 (by decide);refine ⟨rfl,?_⟩;rw [if_pos (by decide)];have q_:=wu;simp only [xQ,cond_false] at q_;have ws:=And.intro (q_.kV (.int .i64 a) (.int .i64 b)) (And.intro True.intro True.intro)
  skip
  have ⟨AV,AW,AX,AY,_⟩:=q_.R.box;unfold Oper.wp
  go_simp
  all_goals first | exact ws | exact ws.1 | exact ⟨undef,ws⟩ | exact ⟨_,rfl,ws⟩
 ·unfold Rg.aj
  intro zZ w_ l_ wV wu xY xQ xl xZ wU hr;have e3:zZ.tmps[3]?=some (.pointer (some ⟨w.heap.size+1,0,none⟩)):=hr 3 (by decide);have Hz:zZ.tmps[69]?=some (.agg #[.int .i64 X1,.int .i64 Y1,.int .i64 E1]):=hr 69 (by decide);refine ⟨rfl,?_⟩;rw [if_pos (by decide)];have q_:=wu;simp only [xQ,cond_false] at q_;have ws:=And.intro (q_.jT (.int .i64 X1) (.int .i64 Y1) (.int .i64 E1)) (And.intro True.intro True.intro);have ⟨AV,AW,Ej,AX,AY,Di⟩:=q_.Q.cG;unfold Oper.wp
  go_simp
  all_goals first | exact ws | exact ws.1 | exact ⟨undef,ws⟩ | exact ⟨_,rfl,ws⟩
 intro vals wz wu hF hv;simp only [Rg.bE,Rg.fill,Act.put,Nat.reduceAdd];clear hv hF;simp only [cond_true] at wu;obtain ⟨⟨wU,j_⟩,-,R,Q,-,-⟩:=wu;have ⟨AO,AP,o_,p_,AQ⟩:=R.box;have ⟨Bi,Bj,Bk,yt,yu,yv⟩:=Q.cG;have Bl:=Q.lt;go_wp2;exact bodyPost_ret (v:=.tuple #[.agg #[.int .i64 a,.int .i64 b],.agg #[.int .i64 X1,.int .i64 Y1,.int .i64 E1]]) (by simp [results,Tryz.results99,go_sem, *]) rfl (⟨a,b,X1,Y1,E1,rfl,wU.mono (by omega),j_⟩)
theorem zA.call {w W W':World} {g B n K K' r1 r2:Nat} {v:Value} {L:List (Nat × TypeId × Array Value)} {T1 T2:TypeId} {xs ys:Array Value} (h:zA w g B v n K r1 r2 L T1 T2 xs ys W) (hc:cK W' g B v n K') (hg:W.grownBy W' (some g)) (hL:∀ x ∈ L,x.1≠g):zA w g B v n K' r1 r2 L T1 T2 xs ys W':=by
 have hn:=h.hn;exact ⟨h.rd.call hc hg,fun x hx=>(h.hV x hx).aW hg (hL x hx),h.R.aW hg (by omega),h.Q.aW hg (by omega),hn,h.hL⟩
theorem iB (g B:Nat) (v:Value) (n K:Nat) (w:World) (h:cK w g B v n K) (hk:K≤800000000) :
  Calls Tryz.prog 72 #[.pointer (some ⟨g,0,none⟩)] w fun e w'=>∃ x:Int,e=.returned (.int .i64 x)∧cK w' g B v n (K+4)∧w.grownBy w' (some g):=by
 have st:=St.start h;go_enter Tryz.func72,Tryz.ntmps72
 go_wp2_with fail
 have yA:=st;replace st:=st.alloc (.cells #[.int .i64 (-1),.int .i64 6] 3);refine (bq g B v n _ [-1,6] (w).heap.size 2 _ st.cur (by omega) rfl (by omega) (by omega) (by have:=yA.size;omega) (bP _ _ _)).mono ?_;rintro e Hf ⟨x1,rfl,-,wU,j_⟩;replace st:=st.call wU j_;have HO:=j_.size;clear wU j_;clear yA
 go_wp2_with fail
 have yA:=st;replace st:=st.alloc (.cells #[.int .i64 0,.int .i64 1,.int .i64 2,.int .i64 2,.int .i64 3,.int .i64 5,.int .i64 x1] 3);refine (bq g B v n _ [0,1,2,2,3,5,x1] (Hf).heap.size 7 _ st.cur (by omega) rfl (by omega) (by omega) (by have:=yA.size;omega) (bP _ _ _)).mono ?_;rintro e Hh ⟨x2,rfl,-,wU,j_⟩;replace st:=st.call wU j_;have HP:=j_.size;clear wU j_;clear yA;go_wp2;go_ret;exact ⟨x2,rfl,st.cur,st.gr⟩
theorem iK (v:Value) (n:Nat) (w:World) (h:b7 w w.heap.size v n) :
  Calls Tryz.prog 40 #[v] w fun e w'=>∃ a b X1 Y1 E1 m:Int,e=.returned (.tuple #[.agg #[.int .i64 a,.int .i64 b],.agg #[.int .i64 X1,.int .i64 Y1,.int .i64 E1],.int .i64 m])∧Below w.heap.size w w':=by
 obtain ⟨A,cap,rfl,hn,wg⟩:=h
 have h:b7 w w.heap.size (.slice A n cap) n:=⟨A,cap,rfl,hn,wg⟩
 clear wg hn;obtain ⟨wc,hw3,R,Q,BB⟩:=dL w #[.int .i64 0,.int .i64 0] 25 #[.int .i64 0,.int .i64 0,.int .i64 0] 27;have st:=St.ub h BB 90;have zc:=Q.lt;have zw:=BB.size;replace R:=R.alloc (.cells #[.slice A n cap,.int .i64 0,.int .u64 0] 90);replace Q:=Q.alloc (.cells #[.slice A n cap,.int .i64 0,.int .u64 0] 90)
 have nR:w.heap.size≠wc.heap.size:=by omega
 have nQ:w.heap.size+1≠wc.heap.size:=by omega
 clear h BB;go_enter Tryz.func40,Tryz.ntmps40
 go_wp2_with fail
 refine (ij _ w.heap.size _ n _ _ st.cur (by omega)).mono ?_;rintro e BP ⟨a,b,X1,Y1,E1,rfl,wU,j_⟩;replace st:=st.call wU j_;have D6:=j_.size;replace R:=R.aW j_ nR;replace Q:=Q.aW j_ nQ;clear wU j_;have zq:=Q.lt;have zg:=st.size;have C:=aH.new BP #[.int .i64 a,.int .i64 b] 25;have zlC:=st.size;have zgC:=st.le;replace st:=st.alloc (.cells #[.int .i64 a,.int .i64 b] 25);replace R:=R.alloc (.cells #[.int .i64 a,.int .i64 b] 25);replace Q:=Q.alloc (.cells #[.int .i64 a,.int .i64 b] 25);have F:=aH.new (BP.alloc (.cells #[.int .i64 a,.int .i64 b] 25)) #[.int .i64 X1,.int .i64 Y1,.int .i64 E1] 27;have zlF:=st.size;have zgF:=st.le;replace st:=st.alloc (.cells #[.int .i64 X1,.int .i64 Y1,.int .i64 E1] 27);replace R:=R.alloc (.cells #[.int .i64 X1,.int .i64 Y1,.int .i64 E1] 27);replace Q:=Q.alloc (.cells #[.int .i64 X1,.int .i64 Y1,.int .i64 E1] 27);replace C:=C.alloc (.cells #[.int .i64 X1,.int .i64 Y1,.int .i64 E1] 27);rw [wN] at F
 go_upto_region 3 with fail
 generalize BP.heap.size=G at *
 have TW:zA w wc.heap.size w.heap.size (.slice A n cap) n (0+100) w.heap.size (w.heap.size+1) [(G,25,#[.int .i64 a,.int .i64 b]),(G+1,27,#[.int .i64 X1,.int .i64 Y1,.int .i64 E1])] 25 27 _ _ _:=⟨⟨st.cur,st.gr⟩,fun x hx=>(by rcases List.mem_cons.1 hx with rfl | hx;exact C;rcases List.mem_cons.1 hx with rfl | hx;exact F;cases hx),R,Q,⟨wQ _,by omega,by omega,by omega,by omega⟩,fun x hx=>(by rcases List.mem_cons.1 hx with rfl | hx;(show w.heap.size+1<G;omega);rcases List.mem_cons.1 hx with rfl | hx;(show w.heap.size+1<G+1;omega);cases hx)⟩
 have hgL:∀ x ∈ ([(G,25,#[.int .i64 a,.int .i64 b]),(G+1,27,#[.int .i64 X1,.int .i64 Y1,.int .i64 E1])]:List (Nat × TypeId × Array Value)),x.1≠wc.heap.size:=fun x hx=>(by rcases List.mem_cons.1 hx with rfl | hx;(show G≠wc.heap.size;omega);rcases List.mem_cons.1 hx with rfl | hx;(show G+1≠wc.heap.size;omega);cases hx)
 clear st R Q C F;refine Rg.gM (fun l W=>zA w wc.heap.size w.heap.size (.slice A n cap) n ((0+100)+Rg.Aq [(3,4)] l) w.heap.size (w.heap.size+1) [(G,25,#[.int .i64 a,.int .i64 b]),(G+1,27,#[.int .i64 X1,.int .i64 Y1,.int .i64 E1])] 25 27 (bif l 4 then #[.int .i64 a,.int .i64 b] else #[.int .i64 0,.int .i64 0]) (bif l 5 then #[.int .i64 X1,.int .i64 Y1,.int .i64 E1] else #[.int .i64 0,.int .i64 0,.int .i64 0]) W) (fun i u W=>match i with | 3=>uz u | 6=>uz u | _=>True) (fun _ _=>True) [3,4,5,6] [.agg #[.int .i64 a,.int .i64 b],.agg #[.int .i64 X1,.int .i64 Y1,.int .i64 E1],.pointer (some ⟨wc.heap.size,0,none⟩),undef,undef,undef,undef] (by kernel_rfl) (by kernel_rfl) (by decide) (fun l l2 W h q=>by rw [←Rg.kG (C:=[(3,4)]) (l:=l) fun p hp=>h p.1 (by revert p;decide),←h 4 (by decide),←h 5 (by decide)];exact q) (fun i u w1 w2 hR h=>match i,h with | 0,h=>trivial | 1,h=>trivial | 2,h=>trivial | 3,h=>h | 4,h=>trivial | 5,h=>trivial | 6,h=>h | n_+7,_=>trivial) TW.drew ⟨?_,?_,?_,?_,?_,?_,?_,trivial⟩ ?_
 ·unfold Rg.aj
  intro zZ w_ l_ wV wu xY xQ xl xZ wU hr;refine ⟨rfl,?_⟩;rw [if_neg (by decide)];have e6:zZ.tmps[6]?=some (.pointer (some ⟨G,0,none⟩)):=hr 6 (by decide);have wt:aH w_ G 25 #[.int .i64 a,.int .i64 b]:=wu.hV (G,25,#[.int .i64 a,.int .i64 b]) (by simp);have ⟨k0,k1,_,_,_⟩:=wt.box
  (first | (go_simp;done) | (go_simp;exact Rg.wr (by omega) (by omega)) | (go_simp;omega) | (go_simp;rfl) | (go_simp;exact ⟨rfl,rfl⟩))
 ·unfold Rg.aj
  intro zZ w_ l_ wV wu xY xQ xl xZ wU hr;refine ⟨rfl,?_⟩;rw [if_neg (by decide)];have e7:zZ.tmps[7]?=some (.pointer (some ⟨G+1,0,none⟩)):=hr 7 (by decide);have wt:aH w_ (G+1) 27 #[.int .i64 X1,.int .i64 Y1,.int .i64 E1]:=wu.hV (G+1,27,#[.int .i64 X1,.int .i64 Y1,.int .i64 E1]) (by simp);have ⟨k0,k1,k2⟩:=wt.aO
  (first | (go_simp;done) | (go_simp;exact Rg.wr (by omega) (by omega)) | (go_simp;omega) | (go_simp;rfl) | (go_simp;exact ⟨rfl,rfl⟩))
 ·unfold Rg.aj
  intro zZ w_ l_ wV wu xY xQ xl xZ wU hr;refine ⟨rfl,?_⟩;rw [if_neg (by decide)];have e5:zZ.tmps[5]?=some (.pointer (some ⟨wc.heap.size,0,none⟩)):=hr 5 (by decide)
  go_simp
 ·unfold Rg.aj
  intro zZ w_ l_ wV wu xY xQ xl xZ wU hr;have e18:zZ.tmps[18]?=some (.pointer (some ⟨wc.heap.size,0,none⟩)):=hr 18 (by decide)
  have ef:∀ f,zZ.eval (.func f)=.func (.func f) #[] #[]:=fun _=>rfl
  refine ⟨rfl,?_⟩;rw [if_pos (by decide)];have Lu:=Rg.mj [(3,4)] l_;rw [show Rg.Aq [(3,4)] (fun _=>true)=4 from rfl] at Lu;refine Rg.qV (by go_simp;exact ⟨rfl,rfl⟩) ?_;refine (iB _ w.heap.size _ n _ _ wu.rd.1 (by omega)).mono ?_;rintro e_ w5_ ⟨u_,rfl,Ey,j_⟩;exact ⟨_,rfl,by (try dsimp only);rw [Rg.rH (c:=4) (by decide) rfl xQ];exact wu.call Ey j_ hgL,⟨u_,rfl⟩,trivial⟩
 ·unfold Rg.aj
  intro zZ w_ l_ wV wu xY xQ xl xZ wU hr;have e2:zZ.tmps[2]?=some (.pointer (some ⟨w.heap.size,0,none⟩)):=hr 2 (by decide);have e16:zZ.tmps[16]?=some (.agg #[.int .i64 a,.int .i64 b]):=hr 16 (by decide);refine ⟨rfl,?_⟩;rw [if_pos (by decide)];have q_:=wu;simp only [xQ,cond_false] at q_;have ws:=And.intro (q_.kV (.int .i64 a) (.int .i64 b)) (And.intro True.intro True.intro)
  skip
  have ⟨AV,AW,AX,AY,_⟩:=q_.R.box;unfold Oper.wp
  go_simp
  all_goals first | exact ws | exact ws.1 | exact ⟨undef,ws⟩ | exact ⟨_,rfl,ws⟩
 ·unfold Rg.aj
  intro zZ w_ l_ wV wu xY xQ xl xZ wU hr;have e3:zZ.tmps[3]?=some (.pointer (some ⟨w.heap.size+1,0,none⟩)):=hr 3 (by decide);have e17:zZ.tmps[17]?=some (.agg #[.int .i64 X1,.int .i64 Y1,.int .i64 E1]):=hr 17 (by decide);refine ⟨rfl,?_⟩;rw [if_pos (by decide)];have q_:=wu;simp only [xQ,cond_false] at q_;have ws:=And.intro (q_.jT (.int .i64 X1) (.int .i64 Y1) (.int .i64 E1)) (And.intro True.intro True.intro);have ⟨AV,AW,Ej,AX,AY,Di⟩:=q_.Q.cG;unfold Oper.wp
  go_simp
  all_goals first | exact ws | exact ws.1 | exact ⟨undef,ws⟩ | exact ⟨_,rfl,ws⟩
 ·unfold Rg.aj
  intro zZ w_ l_ wV wu xY xQ xl xZ wU hr;have e19:zZ.tmps[19]?=some (wV 3):=hr 19 (by decide);refine ⟨rfl,?_⟩;rw [if_pos (by decide)];obtain ⟨x_,A_⟩:=xY 3 (by decide) (xZ 3 (by kernel_rfl));rw [A_] at e19;refine Rg.mw (x:=.int .i64 x_) (w2:=w_) (by (first | (go_simp;done) | (go_simp;exact Rg.wr (by omega) (by omega)) | (go_simp;omega) | (go_simp;rfl) | (go_simp;exact ⟨rfl,rfl⟩))) ?_;exact ⟨by (try dsimp only);rw [Rg.dR (by decide)];exact wu,⟨_,rfl⟩,trivial⟩
 intro vals wz wu hF hv;obtain ⟨m,CL⟩:=hF 6 (by decide);simp only [Rg.bE,Rg.fill,Act.put,Nat.reduceAdd];clear hv hF;simp only [CL];clear CL;simp only [cond_true] at wu;obtain ⟨rd,-,R,Q,-,-⟩:=wu;have B:=rd.below zw;clear rd;have ⟨AO,AP,o_,p_,AQ⟩:=R.box;have ⟨Bi,Bj,Bk,yt,yu,yv⟩:=Q.cG;have Bl:=Q.lt;go_wp2;exact bodyPost_ret (v:=.tuple #[.agg #[.int .i64 a,.int .i64 b],.agg #[.int .i64 X1,.int .i64 Y1,.int .i64 E1],.int .i64 m]) (by simp [results,Tryz.results40,go_sem, *]) rfl (⟨a,b,X1,Y1,E1,m,rfl,B⟩)
theorem gS (v:Value) (n:Nat) (w:World) (h:b7 w w.heap.size v n) :
  Calls Tryz.prog 70 #[v] w fun e w'=>∃ a b X1 Y1 E1:Int,e=.returned (.tuple #[.agg #[.int .i64 a,.int .i64 b],.agg #[.int .i64 X1,.int .i64 Y1,.int .i64 E1]])∧Below w.heap.size w w':=by
 obtain ⟨A,cap,rfl,hn,wg⟩:=h
 have h:b7 w w.heap.size (.slice A n cap) n:=⟨A,cap,rfl,hn,wg⟩
 clear wg hn;obtain ⟨wc,hw3,R,Q,BB⟩:=dL w #[.int .i64 0,.int .i64 0] 25 #[.int .i64 0,.int .i64 0,.int .i64 0] 27;have st:=St.ub h BB 90;have zc:=Q.lt;have zw:=BB.size;replace R:=R.alloc (.cells #[.slice A n cap,.int .i64 0,.int .u64 0] 90);replace Q:=Q.alloc (.cells #[.slice A n cap,.int .i64 0,.int .u64 0] 90)
 have nR:w.heap.size≠wc.heap.size:=by omega
 have nQ:w.heap.size+1≠wc.heap.size:=by omega
 clear h BB;go_enter Tryz.func70,Tryz.ntmps70
 go_wp2_with fail
 refine (ij _ w.heap.size _ n _ _ st.cur (by omega)).mono ?_;rintro e BP ⟨a,b,X1,Y1,E1,rfl,wU,j_⟩;replace st:=st.call wU j_;have D6:=j_.size;replace R:=R.aW j_ nR;replace Q:=Q.aW j_ nQ;clear wU j_;have B:=st.qQ zw;clear st;have ⟨AO,AP,o_,p_,AQ⟩:=R.box;have ⟨Bi,Bj,Bk,yt,yu,yv⟩:=Q.cG;have Bl:=Q.lt;go_wp2;exact bodyPost_ret (v:=.tuple #[.agg #[.int .i64 a,.int .i64 b],.agg #[.int .i64 X1,.int .i64 Y1,.int .i64 E1]]) (by simp [results,Tryz.results70,go_sem, *]) rfl (⟨a,b,X1,Y1,E1,rfl,(wO (wO (wO (wO (wO B (by dsimp only;omega) _) (by dsimp only;omega) _) (by dsimp only;omega) _) (by dsimp only;omega) _) (by dsimp only;omega) _)⟩)
theorem f6 (v:Value) (n:Nat) (w:World) (h:b7 w w.heap.size v n) :
  Calls Tryz.prog 20 #[v] w fun e w'=>∃ a b m:Int,e=.returned (.tuple #[.agg #[.int .i64 a,.int .i64 b],.int .i64 m])∧Below w.heap.size w w':=by
 obtain ⟨A,cap,rfl,hn,wg⟩:=h
 have h:b7 w w.heap.size (.slice A n cap) n:=⟨A,cap,rfl,hn,wg⟩
 clear wg hn;obtain ⟨wc,hw3,R,BB⟩:=iG w #[.int .i64 0,.int .i64 0] 25;have st:=St.ub h BB 90;have zc:=R.lt;have zw:=BB.size;replace R:=R.alloc (.cells #[.slice A n cap,.int .i64 0,.int .u64 0] 90)
 have nR:w.heap.size≠wc.heap.size:=by omega
 clear h BB;go_enter Tryz.func20,Tryz.ntmps20
 go_wp2_with fail
 refine (ii _ w.heap.size _ n _ _ st.cur (by omega)).mono ?_;rintro e BP ⟨a,b,rfl,wU,j_⟩;replace st:=st.call wU j_;have D6:=j_.size;replace R:=R.aW j_ nR;clear wU j_
 go_wp2_with fail
 refine (iB _ w.heap.size _ n _ _ st.cur (by omega)).mono ?_;rintro e w_d ⟨m,rfl,wU,j_⟩;replace st:=st.call wU j_;have sz_d:=j_.size;replace R:=R.aW j_ nR;clear wU j_;have B:=st.qQ zw;clear st;have ⟨AO,AP,o_,p_,AQ⟩:=R.box;go_wp2;exact bodyPost_ret (v:=.tuple #[.agg #[.int .i64 a,.int .i64 b],.int .i64 m]) (by simp [results,Tryz.results20,go_sem, *]) rfl (⟨a,b,m,rfl,(wO (wO B (by dsimp only;omega) _) (by dsimp only;omega) _)⟩)
theorem iy (v:Value) (n:Nat) (w:World) (h:b7 w w.heap.size v n) :
  Calls Tryz.prog 7 #[v] w fun e w'=>∃ a b X1 Y1 E1 m:Int,e=.returned (.tuple #[.agg #[.int .i64 a,.int .i64 b],.agg #[.int .i64 X1,.int .i64 Y1,.int .i64 E1],.int .i64 m])∧Below w.heap.size w w':=by
 obtain ⟨A,cap,rfl,hn,wg⟩:=h
 have h:b7 w w.heap.size (.slice A n cap) n:=⟨A,cap,rfl,hn,wg⟩
 clear wg hn;obtain ⟨wc,hw3,R,Q,BB⟩:=dL w #[.int .i64 0,.int .i64 0] 25 #[.int .i64 0,.int .i64 0,.int .i64 0] 27;have h2:=(h.keepW BB).nu BB.size;have zw:=BB.size;clear h;go_enter Tryz.func7,Tryz.ntmps7
 go_wp2_with fail
 refine (iK _ n _ h2).mono ?_;rintro e w4 ⟨a,b,X1,Y1,E1,m,rfl,hb4⟩;have B:=BB.trans (hb4.mono zw);replace R:=R.keep hb4;replace Q:=Q.keep hb4;have ⟨AO,AP,o_,p_,AQ⟩:=R.box;have ⟨Bi,Bj,Bk,yt,yu,yv⟩:=Q.cG;have Bl:=Q.lt;clear h2 hb4 BB;go_wp2;exact bodyPost_ret (v:=.tuple #[.agg #[.int .i64 a,.int .i64 b],.agg #[.int .i64 X1,.int .i64 Y1,.int .i64 E1],.int .i64 m]) (by simp [results,Tryz.results7,go_sem, *]) rfl (⟨a,b,X1,Y1,E1,m,rfl,(wO (wO (wO (wO (wO B (by dsimp only;omega) _) (by dsimp only;omega) _) (by dsimp only;omega) _) (by dsimp only;omega) _) (by dsimp only;omega) _)⟩)
theorem fF (v:Value) (n:Nat) (w:World) (h:b7 w w.heap.size v n) :
  Calls Tryz.prog 17 #[v] w fun e w'=>∃ a b X1 Y1 E1:Int,e=.returned (.tuple #[.agg #[.int .i64 a,.int .i64 b],.agg #[.int .i64 X1,.int .i64 Y1,.int .i64 E1]])∧Below w.heap.size w w':=by
 obtain ⟨A,cap,rfl,hn,wg⟩:=h
 have h:b7 w w.heap.size (.slice A n cap) n:=⟨A,cap,rfl,hn,wg⟩
 clear wg hn;obtain ⟨wc,hw3,R,Q,BB⟩:=dL w #[.int .i64 0,.int .i64 0] 25 #[.int .i64 0,.int .i64 0,.int .i64 0] 27;have h2:=(h.keepW BB).nu BB.size;have zw:=BB.size;clear h;go_enter Tryz.func17,Tryz.ntmps17
 go_wp2_with fail
 refine (gS _ n _ h2).mono ?_;rintro e w4 ⟨a,b,X1,Y1,E1,rfl,hb4⟩;have B:=BB.trans (hb4.mono zw);replace R:=R.keep hb4;replace Q:=Q.keep hb4;have ⟨AO,AP,o_,p_,AQ⟩:=R.box;have ⟨Bi,Bj,Bk,yt,yu,yv⟩:=Q.cG;have Bl:=Q.lt;clear h2 hb4 BB;go_wp2;exact bodyPost_ret (v:=.tuple #[.agg #[.int .i64 a,.int .i64 b],.agg #[.int .i64 X1,.int .i64 Y1,.int .i64 E1]]) (by simp [results,Tryz.results17,go_sem, *]) rfl (⟨a,b,X1,Y1,E1,rfl,(wO (wO (wO (wO (wO B (by dsimp only;omega) _) (by dsimp only;omega) _) (by dsimp only;omega) _) (by dsimp only;omega) _) (by dsimp only;omega) _)⟩)
end
end Go.Proofs.YtggekfbfechonaaGreat
