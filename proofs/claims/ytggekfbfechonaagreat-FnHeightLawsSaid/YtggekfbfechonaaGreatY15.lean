/-
  Joined texts: contracts and plain lemmas.
-/
import Derived.Test.YtggekfbfechonaaGreatY1
import Derived.Test.YtggekfbfechonaaGreatY11
import Derived.Test.YtggekfbfechonaaGreatY14
import Derived.Test.YtggekfbfechonaaGreatY10
import Derived.Test.YtggekfbfechonaaGreatY5
import Derived.Test.YtggekfbfechonaaGreatY2
import Derived.Deep.DeepCutAuto
set_option linter.unusedSimpArgs false
set_option linter.unusedVariables false
set_option maxRecDepth 100000
set_option maxHeartbeats 8000000
namespace Go.Proofs.YtggekfbfechonaaGreat
section
namespace M
theorem co {k x y:Rat} (hk:k≠0) (h:k*x=k*y):x=y:=by
 have:k*(x - y)=0:=by grind
 rcases Rat.mul_eq_zero.1 this with h | h
 ·exact absurd h hk
 grind
theorem lM {X Y E:Int} (hE:E≠0):∃ x y:Rat,eA X Y E=.fin x y∧x*((E:Rat)*E)=X∧y*((E:Rat)*E*E)=Y:=by
 refine ⟨_,_,if_neg hE,?_,?_⟩
 ·push_cast
  exact Rat.div_mul_cancel (by have:=dS hE;grind)
 push_cast
 exact Rat.div_mul_cancel (by have:=dS hE;grind)
theorem vy {x:Int} (h:(x:Rat)=0):x=0:=by exact_mod_cast h
theorem sJ {a b X1 Y1 E1 X2 Y2 E2:Int} (h1:bG a b X1 Y1 E1=true) (h2:bG a b X2 Y2 E2=true) (e1:E1≠0) (e2:E2≠0) (h0:sD X1 Y1 E1 X2 Y2 E2≠0) {x1 y1 x2 y2:Rat}
  (k1:x1*((E1:Rat)*E1)=X1) (k2:y1*((E1:Rat)*E1*E1)=Y1) (k3:x2*((E2:Rat)*E2)=X2) (k4:y2*((E2:Rat)*E2*E2)=Y2)
  (o1:y1*y1=x1*x1*x1+a*x1+b) (o2:y2*y2=x2*x2*x2+a*x2+b) :
  ∃ l:Rat,ws.Slp a x1 y1 x2 y2 l∧l*(sD X1 Y1 E1 X2 Y2 E2:Int)=(sN a X1 Y1 E1 X2 Y2 E2:Int):=by
 have z1:=dS e1;have z2:=dS e2
 by_cases hc:X1=X2∧Y1=Y2∧E1=E2
 ·unfold sD at h0
  rw [if_pos hc] at h0
  have hy:y1≠0:=fun h=>by
   rw [h,Rat.zero_mul] at k2;have:=vy k2.symm;subst this;simp at h0
  unfold sD sN;rw [if_pos hc,if_pos hc];obtain ⟨rfl,rfl,rfl⟩:=hc;have ex:x1=x2:=co (k:=(E1:Rat)*E1) (by grind) (by grind);have ey:y1=y2:=co (k:=(E1:Rat)*E1*E1) (by grind) (by grind);subst ex ey;refine ⟨(3*x1*x1+a) / (2*y1),⟨by grind,?_⟩,?_⟩
  ·have:=Rat.div_mul_cancel (a:=3*x1*x1+a) (b:=2*y1) (by grind)
   grind
  have:=Rat.div_mul_cancel (a:=3*x1*x1+a) (b:=2*y1) (by grind);generalize (3*x1*x1+(a:Rat)) / (2*y1)=l at *
  push_cast
  rw [←k1,←k2];clear k1 k2 k3 k4 o1 o2;generalize (E1:Rat)=e at *
  have:l*(2*(y1*(e*e*e))*e)=(l*(2*y1))*(e*e*e*e):=by grind
  grind
 unfold sD at h0;rw [if_neg hc] at h0;unfold sD sN;rw [if_neg hc,if_neg hc]
 have hx:x2 - x1≠0:=fun h=>by
  apply h0
  have:(X2*E1*E1 - X1*E2*E2:Int)=0:=by
   apply vy
   push_cast
   rw [←k1,←k3];clear k2 k4 o1 o2
   grind
  rw [this,Int.mul_zero]
 have hd:=Rat.div_mul_cancel (a:=y2 - y1) hx;refine ⟨(y2 - y1) / (x2 - x1),⟨by grind,?_⟩,?_⟩
 ·generalize (y2 - y1) / (x2 - x1)=l at *
  refine co hx ?_
  have:(x2 - x1)*(l*(y1+y2))=(y2 - y1)*(y1+y2):=by rw [←hd];grind
  rw [this];clear this hd k1 k2 k3 k4
  grind
 generalize (y2 - y1) / (x2 - x1)=l at *
 push_cast
 rw [←k1,←k2,←k3,←k4];clear k1 k2 k3 k4 o1 o2;generalize (E1:Rat)=e at *;generalize (E2:Rat)=f at *
 have:l*(e*f*(x2*(f*f)*e*e - x1*(e*e)*f*f))=(l*(x2 - x1))*(e*e*e*f*f*f):=by grind
 rw [this,hd]
 grind
theorem eR {a b:Int} (h:good a b=true):ae a b≠0:=by
 unfold good at h;rw [Bool.and_eq_true] at h
 simpa using h.2
theorem tG {a b X1 Y1 E1 X2 Y2 E2:Int} (hg:good a b=true) (h1:bG a b X1 Y1 E1=true) (h2:bG a b X2 Y2 E2=true) (e1:E1≠0) (e2:E2≠0) (h0:sD X1 Y1 E1 X2 Y2 E2≠0) :
  ∃ u v:Rat,ws.add a (eA X1 Y1 E1) (eA X2 Y2 E2)=.fin u v∧
   (∀ (x:Int) (e:Int),e≠0→(u*((e:Rat)*e)=x ↔ bot (yI a X1 Y1 E1 X2 Y2 E2) E1 E2*x=top (yl a X1 Y1 E1 X2 Y2 E2) (yI a X1 Y1 E1 X2 Y2 E2) X1 E1 X2 E2*(e*e)))∧
   ∀ (x y e:Int),e≠0→u*((e:Rat)*e)=x→e*ej (yl a X1 Y1 E1 X2 Y2 E2) (yI a X1 Y1 E1 X2 Y2 E2) X1 Y1 E1 x e=yI a X1 Y1 E1 X2 Y2 E2*E1*E1*E1*y→v*((e:Rat)*e*e)=y:=by
 obtain ⟨x1,y1,k0,k1,k2⟩:=lM (X:=X1) (Y:=Y1) e1;obtain ⟨x2,y2,k3,k4,k5⟩:=lM (X:=X2) (Y:=Y2) e2;have o1:=gA h1;have o2:=gA h2;rw [k0] at o1 ⊢;rw [k3] at o2 ⊢;obtain ⟨l,hl,hn⟩:=sJ h1 h2 e1 e2 h0 k1 k2 k4 k5 o1 o2;obtain ⟨hs,hd0,-⟩:=pM (a:=a) h0
 have hln:l*(yI a X1 Y1 E1 X2 Y2 E2:Int)=(yl a X1 Y1 E1 X2 Y2 E2:Int):=by
  refine co (k:=(sD X1 Y1 E1 X2 Y2 E2:Rat)) (dS h0) ?_
  have:((yl a X1 Y1 E1 X2 Y2 E2*sD X1 Y1 E1 X2 Y2 E2:Int):Rat)=((yI a X1 Y1 E1 X2 Y2 E2*sN a X1 Y1 E1 X2 Y2 E2:Int):Rat):=by rw [hs]
  push_cast at this
  rw [←hn] at this
  grind
 have hm:=dS (E:=yI a X1 Y1 E1 X2 Y2 E2) (by omega);generalize yI a X1 Y1 E1 X2 Y2 E2=m,yl a X1 Y1 E1 X2 Y2 E2=n at *;refine ⟨_,_,ws.cS (ws.gJ (eR hg)) o1 o2 hl,fun x e he=>?_,fun x y e he hx hy=>?_⟩
 ·have hxr:(bot m E1 E2*x=top n m X1 E1 X2 E2*(e*e)) ↔ ((m:Rat)*m*(E1*E1*E2*E2)*x=((n:Rat)*n*(E1*E1*E2*E2) - m*m*(X1*E2*E2+X2*E1*E1))*(e*e)):=by
   unfold bot top
   constructor
   ·intro h
    exact_mod_cast h
   intro h
   exact_mod_cast h
  rw [hxr,←k1,←k4,←hln];have z1:=dS e1;have z2:=dS e2;have z3:=dS he;clear k0 k1 k2 k3 k4 k5 o1 o2 hn hln hxr hl;generalize (E1:Rat)=e1 at *;generalize (E2:Rat)=e2 at *;generalize (e:Rat)=e at *;generalize (m:Rat)=m at *;generalize (x:Rat)=x at *
  have e0:(l*m*(l*m)*(e1*e1*e2*e2) - m*m*(x1*(e1*e1)*e2*e2+x2*(e2*e2)*e1*e1))*(e*e)=(m*m*(e1*e1*e2*e2))*((l*l - x1 - x2)*(e*e)):=by grind
  rw [e0]
  constructor
  ·intro h
   rw [h]
  intro h;exact (co (k:=m*m*(e1*e1*e2*e2)) (by grind) h).symm
 have Jf:((e:Rat)*(n*(X1*e*e - x*E1*E1)*E1 - Y1*m*e*e))=m*E1*E1*E1*y:=by
  unfold ej at hy
  exact_mod_cast hy
 rw [←k1,←k2,←hln,←hx] at Jf;have z1:=dS e1;have z3:=dS he;clear k0 k1 k2 k3 k4 k5 o1 o2 hn hln hl hx hy;generalize (E1:Rat)=e1 at *;generalize (e:Rat)=e at *;generalize (m:Rat)=m at *;generalize (y:Rat)=y at *;refine co (k:=m*e1*e1*e1) (by grind) ?_;rw [←Jf];generalize l*l - x1 - x2=u
 grind
theorem si {a b X1 Y1 E1 X2 Y2 E2:Int} (hg:good a b=true) (h1:bG a b X1 Y1 E1=true) (h2:bG a b X2 Y2 E2=true) (hk:dq a X1 Y1 E1 X2 Y2 E2=true) :
  eA (fQ a X1 Y1 E1 X2 Y2 E2) (fR a X1 Y1 E1 X2 Y2 E2) (fP a X1 Y1 E1 X2 Y2 E2)=ws.add a (eA X1 Y1 E1) (eA X2 Y2 E2):=by
 unfold dq at hk;unfold fQ fR fP
 by_cases e1:E1=0
 ·subst e1
  rw [if_pos rfl,if_pos rfl,if_pos rfl];rfl
 rw [if_neg e1] at hk;rw [if_neg e1,if_neg e1,if_neg e1]
 by_cases e2:E2=0
 ·subst e2
  rw [if_pos rfl,if_pos rfl,if_pos rfl];exact (ws.kD _ _).symm
 rw [if_neg e2] at hk;rw [if_neg e2,if_neg e2,if_neg e2];obtain ⟨p1,p2,p3,p4⟩:=gw h1 e1;obtain ⟨r1,r2,r3,r4⟩:=gw h2 e2
 by_cases h0:sD X1 Y1 E1 X2 Y2 E2=0
 ·obtain ⟨q1,q2,q3⟩:=(oy p4 r4 p2.1 r2.1 p3 r3).1 h0
  unfold BP Be Ai;rw [if_pos h0,if_pos h0,if_pos h0];subst q1 q2 q3;unfold eA;rw [if_pos rfl,if_neg e1,if_neg e1]
  symm
  refine ws.b9 ⟨rfl,?_⟩
  push_cast
  rw [Rat.div_def,Rat.div_def,Rat.neg_mul]
 obtain ⟨u,v,k1,k2,k3⟩:=tG hg h1 h2 e1 e2 h0;obtain ⟨-,-,H⟩:=kr (n:=yl a X1 Y1 E1 X2 Y2 E2) (m:=yI a X1 Y1 E1 X2 Y2 E2) p4 r4 p1.2 r1.2 p2.1 p2.2 r2.1 r2.2 h0 (Or.inl ⟨rfl,rfl⟩);obtain ⟨c1,c2,c3,c4,c5,c6,c7,c8,-⟩:=H hk _ _ _ rfl rfl rfl
 have hE:Ai a X1 Y1 E1 X2 Y2 E2≠0:=by omega
 have hu:=(k2 _ _ hE).2 c6;have hv:=k3 _ _ _ hE hu c7;rw [k1];obtain ⟨x,y,l1,l2,l3⟩:=lM (X:=BP a X1 Y1 E1 X2 Y2 E2) (Y:=Be a X1 Y1 E1 X2 Y2 E2) hE;have z:=dS hE;rw [l1]
 congr 1
 ·exact co (k:=(Ai a X1 Y1 E1 X2 Y2 E2:Rat)*Ai a X1 Y1 E1 X2 Y2 E2) (by grind) (by grind)
 exact co (k:=(Ai a X1 Y1 E1 X2 Y2 E2:Rat)*Ai a X1 Y1 E1 X2 Y2 E2*Ai a X1 Y1 E1 X2 Y2 E2) (by grind) (by grind)
theorem mf {a b X Y E:Int} (h:bG a b X Y E=true):bG a b X (-Y) E=true:=by
 unfold bG at *
 split
 ·rename_i hE
  rw [if_pos hE] at h;simp only [Bool.and_eq_true,decide_eq_true_eq] at *;omega
 rename_i hE
 rw [if_neg hE] at h;simp only [Bool.and_eq_true,decide_eq_true_eq] at *;exact ⟨h.1,by rw [show -Y*-Y=Y*Y by grind];exact h.2⟩
end M
end
section
open Go.RowKit
theorem lQ (w:World) (p:Addr) (x:Value):(w.setCell p x).heap.size=w.heap.size:=by simp [World.setCell]
namespace M
abbrev Sp:=Option (Int × Int)
def mkS (l h:Int):Sp:=if aQ l h=true then some (l,h) else none
noncomputable def gF (a b X E:Int):Sp:=if AK a b X E=true then some (bL a b X E (bN a b X E),bH a b X E (bN a b X E)) else none
def gd (f:Bool) (s:Sp):Sp:=if f=true then s else none
def Jl (s:Sp):Prop:=∀ p,s=some p→aQ p.1 p.2=true
theorem sk {a b X E:Int} (hin:M.bK a b=true) (hX1:-10000≤X) (hX2:X≤10000) (hE1:0≤E) (hE2:E≤20) (h:AK a b X E=true):aQ (bL a b X E (bN a b X E)) (bH a b X E (bN a b X E))=true:=by
 cases hs:aQ (bL a b X E (bN a b X E)) (bH a b X E (bN a b X E))
 ·rw [vF hin hX1 hX2 hE1 hE2 (wL _) hs] at h;cases h
 rfl
theorem rY {a b X E:Int} (hin:M.bK a b=true) (hX1:-10000≤X) (hX2:X≤10000) (hE1:0≤E) (hE2:E≤20):Jl (gF a b X E):=by
 intro p hp;unfold gF at hp
 split at hp
 ·rename_i h
  injection hp with hp;subst hp;exact sk hin hX1 hX2 hE1 hE2 h
 cases hp
end M
namespace M
theorem fz (s:Sp):gd true s=s:=rfl
end M
namespace M
noncomputable def yS (s:Sp):Int:=match s with | some p=>pn p.1 | none=>0
noncomputable def yT (s:Sp):Int:=match s with | some p=>pd p.1 | none=>0
noncomputable def yU (s:Sp):Int:=match s with | some p=>pn p.2 | none=>0
noncomputable def yV (s:Sp):Int:=match s with | some p=>pd p.2 | none=>0
end M
namespace M
theorem nf {X E:Int} (hX1:-10000≤X) (hX2:X≤10000) (hE1:0≤E) (hE2:E≤20):bk (.val X (E*E))≤14:=by
 have h1:Wh.bl X.natAbs≤14:=Wh.l8 (by omega)
 have Fd:0≤E*E∧E*E≤400:=⟨Int.mul_nonneg hE1 hE1,by have:=Int.mul_le_mul hE2 hE2 hE1 (by omega);omega⟩
 have h2:Wh.bl (E*E).natAbs≤14:=Wh.l8 (by omega)
 show max ((Wh.bl X.natAbs:Nat):Int) ((Wh.bl (E*E).natAbs:Nat):Int)≤14
 omega
theorem er {a b X Y E:Int} (hg:good a b=true) (h:bG a b X Y E=true) (k:Nat):0≤bL a b X E k∧bH a b X E k≤150000:=by
 have hin:=ag hg;obtain ⟨x1,x2,e1,e2,-⟩:=be hin h;have hm:=nc (a:=a) (b:=b) (X:=X) (E:=E) (k:=0) k (Nat.zero_le _);have hCb:=iu hin;have hb:=nf x1 x2 e1 e2
 have h0:0≤bL a b X E 0∧bH a b X E 0≤150000:=by
  show 0≤hL (hC a b) 0 (aX a b X E 0)∧hH (hC a b) 0 (aX a b X E 0)≤150000
  unfold aX
  split
  ·exact ⟨Int.le_refl _,by show (0:Int)≤150000;decide⟩
  show 0≤max 0 (3*(bk (.val X (E*E)) - 1) - (hC a b:Int))*4096 / p4 0∧-(-((3*bk (.val X (E*E))+(hC a b:Int))*4096) / p4 0)≤150000
  have e:p4 0=3:=rfl;rw [e];omega
 omega
theorem du {a b X Y E:Int} (hg:good a b=true) (h:bG a b X Y E=true):gF a b X E=some (bL a b X E (bN a b X E),bH a b X E (bN a b X E)):=by
 have hs:=er hg h (bN a b X E);have hv:=(fT (eR hg) h).valid;unfold gF AK
 have:aQ (bL a b X E (bN a b X E)) (bH a b X E (bN a b X E))=true:=by
  unfold aQ;simp only [Bool.and_eq_true,decide_eq_true_eq];omega
 rw [if_pos this]
structure HB (a b X Y E l h:Int):Prop where
 is:gF a b X E=some (l,h)
 lo:0≤l
 hi:h≤150000
 le:l≤h
 hld:z8 (ws.hs a (eA X Y E)) l h
theorem HB.ex {a b X Y E:Int} (hg:good a b=true) (h:bG a b X Y E=true):∃ l u,HB a b X Y E l u∧l=bL a b X E (bN a b X E)∧u=bH a b X E (bN a b X E):=
 ⟨_,_,⟨du hg h,(er hg h _).1,(er hg h _).2,(fT (eR hg) h).valid,fT (eR hg) h⟩,rfl,rfl⟩
theorem rf {x y:Int} (h1:-409600000≤x) (h2:x≤409600000) (h3:-409600000≤y) (h4:y≤409600000):(pn x*pd y<pn y*pd x) ↔ x<y:=by
 obtain ⟨-,x1,-,x2,x3,x4,-⟩:=eK (bS h1 h2);obtain ⟨-,y1,-,y2,y3,y4,-⟩:=eK (bS h3 h4);have ex:4096 / pd x*pd x=4096:=Int.ediv_mul_cancel (Int.dvd_of_emod_eq_zero x2);have ey:4096 / pd y*pd y=4096:=Int.ediv_mul_cancel (Int.dvd_of_emod_eq_zero y2);generalize 4096 / pd y=v,4096 / pd x=u at *
 have e1:(u*v)*(pn x*pd y)=x*4096:=by rw [←x3,←ey];grind
 have e2:(u*v)*(pn y*pd x)=y*4096:=by rw [←y3,←ex];grind
 have huv:0<u*v:=Int.mul_pos (by omega) (by omega)
 constructor
 ·intro h
  have:=Int.mul_lt_mul_of_pos_left h huv;rw [e1,e2] at this;omega
 intro h;refine Int.lt_of_mul_lt_mul_left (a:=u*v) ?_ (Int.le_of_lt huv);rw [e1,e2];omega
end M
end
section
open Go Go.RowKit
namespace Rg
variable {P:Program} {Q:Exit→Act→World→Prop}
def upd (l:Nat→Bool) (i:Nat):Nat→Bool:=fun j=>if j=i then true else l j
def j9 (v:Nat→Value) (i:Nat) (u:Value):Nat→Value:=fun j=>if j=i then u else v j
def nS (md:Region.Mode) (ops:Array Oper) (l:Nat→Bool):Prop:=∀ i o,ops[i]?=some o→l i=true→∀ e ∈ o.after,Region.binds md e=true→l e.on=true
section
variable (P) (Q) (md:Region.Mode) (ops:Array Oper) (I:(Nat→Bool)→(Nat→Value)→World→Prop) (a0:Act)
def qc (i:Nat) (o:Oper) (a:Act) (w:World) (l:Nat→Bool) (vals:Nat→Value):Prop:=
 if Region.wanted o (yielded ops a.tmps)=true then o.wp P a w (fun a' w'=>∃ v,a'=a.put o.dst v∧I (upd l i) (j9 vals i v) w') Q else I (upd l i) (j9 vals i undef) w
def vB (i:Nat) (o:Oper):Prop:=∀ (a:Act) (w:World) (l:Nat→Bool) (vals:Nat→Value),I l vals w→l i=false→nS md ops l→(∀ e ∈ o.after,Region.binds md e=true→l e.on=true)→(∀ t ∈ o.looksAt ops,a.tmps[t]?=rd md ops a0 vals o t)→qc P Q ops I i o a w l vals
def jU:List Oper→Nat→Prop
 | [],_=>True
 | o :: os,k=>vB P Q md ops I a0 k o∧jU os (k+1)
theorem jU.at {os:List Oper} {k:Nat} (h:jU P Q md ops I a0 os k):∀ {i:Nat} {o:Oper},os[i]?=some o→vB P Q md ops I a0 (k+i) o:=by
 induction os generalizing k with
 | nil=>intro i o hi;simp at hi
 | cons x os ih=>
 intro i o hi
 cases i with
 | zero=>
  simp only [List.getElem?_cons_zero,Option.some.injEq] at hi;subst hi;exact h.1
 | succ i=>
 have:=ih h.2 (i:=i) (o:=o) (by simpa using hi);rw [show k+(i+1)=k+1+i from by omega];exact this
def uz (L:Array Bool) (a:Act) (w:World):Prop:=
 L.size=ops.size∧nS md ops (fun j=>L.getD j false)∧
 ∃ vals:Nat→Value,I (fun j=>L.getD j false) vals w∧a=fill (fun j=>L.getD j false) vals ops.toList 0 a0
end
theorem tp {md:Region.Mode} {ops:Array Oper} {I:(Nat→Bool)→(Nat→Value)→World→Prop} {a0:Act} (hok:eg md ops a0.tmps.size=true)
  (hR:jU P Q md ops I a0 ops.toList 0) (hF:∀ (l:Nat→Bool) (vals:Nat→Value) (w:World),(∀ i,i<ops.size→l i=true)→I l vals w→Q .normal (fill (fun _=>true) vals ops.toList 0 a0) w) :
  ∀ (fuel:Nat) (L:Array Bool) (a:Act) (w:World),left (fun j=>L.getD j false) ops.size≤fuel→uz md ops I a0 L a w→wpAny P md ops Q fuel L a w:=by
 rw [eg,Bool.and_eq_true,Bool.and_eq_true] at hok;obtain ⟨⟨hap,hrd⟩,hac⟩:=hok
 have AX:∀ i o,ops[i]?=some o→(∀ e ∈ o.after,Region.binds md e=true→e.on<i)∧∀ d,o.dst=some d→d<a0.tmps.size:=fun i o hi=>by
  have hlt:i<ops.size:=(Array.getElem?_eq_some_iff.1 hi).1;have:=List.all_eq_true.1 hac i (List.mem_range.2 hlt);rw [hi] at this;simp only [Bool.and_eq_true,List.all_eq_true,Bool.or_eq_true,Bool.not_eq_true',decide_eq_true_eq] at this;refine ⟨fun e he hb=>?_,fun d hd=>?_⟩
  ·rcases this.1 e (Array.mem_toList_iff.2 he) with q | q
   ·rw [hb] at q;cases q
   exact q
  have:=this.2;rw [hd] at this
  simpa using this
 have htl:∀ i,ops.toList[i]?=ops[i]?:=fun i=>Array.getElem?_toList
 have hall:∀ L:Array Bool,L.size=ops.size→Region.ready md ops L=[]→∀ i,i<ops.size→L.getD i false=true:=by
  intro L hL hr i
  induction i using Nat.strongRecOn with
  | ind i ih=>
  intro hi
  cases hl:L.getD i false
  ·exfalso
   have hm:i ∈ Region.ready md ops L:=by
    unfold Region.ready;rw [List.mem_filter];refine ⟨List.mem_range.2 hi,?_⟩
    have hg:L.getD i true=false:=by
     rw [Array.getD_eq_getD_getElem?,Array.getElem?_eq_getElem (by omega)] at hl ⊢;exact hl
    rw [hg,Array.getElem?_eq_getElem hi];simp only [Bool.not_false,Bool.true_and,Option.map_some,Option.getD_some];rw [Array.all_eq_true_iff_forall_mem];intro e he
    cases hb:Region.binds md e
    ·rfl
    have hlt:=(AX i _ (Array.getElem?_eq_getElem hi)).1 e he hb;simp [ih e.on hlt (by omega)]
   rw [hr] at hm;cases hm
  rfl
 have hfin:∀ (L:Array Bool) (a:Act) (w:World),uz md ops I a0 L a w→Region.ready md ops L=[]→Q .normal a w:=by
  rintro L a w ⟨hL,-,vals,hS,rfl⟩ hr;have h:=hall L hL hr;rw [cE (l':=fun _=>true) (v':=vals) ops.toList 0 a0 (fun j _ hj=>h j (by simpa using hj)) (fun _ _ _=>rfl)];exact hF _ vals w h hS
 intro fuel
 induction fuel with
 | zero=>
  intro L a w hl hI;have hz:=f7 _ (Nat.le_zero.1 hl)
  have hr:Region.ready md ops L=[]:=by
   unfold Region.ready;rw [List.filter_eq_nil_iff];intro i hi;have hi:=List.mem_range.1 hi;have h1:=hz i hi
   have hg:L.getD i true=true:=by
    have hsz:=hI.1;simp only [Array.getD_eq_getD_getElem?] at h1 ⊢;rw [Array.getElem?_eq_getElem (by omega)] at h1 ⊢;exact h1
   rw [hg];simp
  exact ⟨hr,hfin L a w hI hr⟩
 | succ fuel ih=>
 intro L a w hl hI;refine ⟨hfin L a w hI,fun i hi=>?_⟩;obtain ⟨hL,hdc,vals,hS,rfl⟩:=hI;obtain ⟨hun,o,ho,Cb⟩:=mem_ready.1 hi;have hilt:i<ops.size:=(Array.getElem?_eq_some_iff.1 ho).1
 have hun':L.getD i false=false:=by
  simp only [Array.getD_eq_getD_getElem?] at hun ⊢;rw [Array.getElem?_eq_getElem (by omega)] at hun ⊢;exact hun
 have hq:=jU.at P Q md ops I a0 hR (i:=i) (o:=o) (by rw [htl];exact ho);rw [Nat.zero_add] at hq
 have hst:=hq (fill (fun j=>L.getD j false) vals ops.toList 0 a0) w (fun j=>L.getD j false) vals hS hun' hdc
  (fun e he hb=>Cb e he hb)
  (fun t ht=>by
   unfold rd
   have hr1:gR md ops i o t=true:=by
    have:=List.all_eq_true.1 hrd i (List.mem_range.2 hilt);rw [ho] at this;exact List.all_eq_true.1 this t ht
   cases hf:o.after.toList.find? (fun e=>Region.binds md e && ((ops[e.on]?).bind (·.dst)) == some t) with
   | some e=>
    have h1:=List.find?_some hf;have h2:=List.mem_of_find?_eq_some hf;rw [Bool.and_eq_true,beq_iff_eq] at h1;obtain ⟨x,hx,hxd⟩:=Option.bind_eq_some_iff.1 h1.2;have h3:=Cb e (Array.mem_toList_iff.1 h2) h1.1;have:=jI (l:=fun j=>L.getD j false) (v:=vals) ops.toList 0 e.on x a0 hap (by rw [htl];exact hx) (by simpa using h3) hxd ((AX e.on x hx).2 t hxd);rw [Nat.zero_add] at this;exact this
   | none=>
   refine d6 ops.toList 0 a0 fun j x hx hlj hxd=>?_
   rw [Nat.zero_add] at hlj;rw [htl] at hx;have hjlt:j<ops.size:=(Array.getElem?_eq_some_iff.1 hx).1;rw [gR,Bool.or_eq_true] at hr1
   rcases hr1 with q | q
   ·obtain ⟨e,he,hp⟩:=List.any_eq_true.1 q
    have:=List.find?_eq_none.1 hf e he;exact this hp
   have:=List.all_eq_true.1 q j (List.mem_range.2 hjlt);rw [hx] at this;simp only [Bool.or_eq_true,bne_iff_ne,ne_eq,beq_iff_eq,List.any_eq_true,Bool.and_eq_true] at this
   rcases this with (q1 | q1) | ⟨e,he,hb,hon⟩
   ·exact q1 hxd
   ·subst q1
    rw [hun'] at hlj;cases hlj
   have:L.getD e.on false=true:=hdc j x hx hlj e (Array.mem_toList_iff.1 he) hb;rw [hon,hun'] at this
   cases this)
 have hnext:∀ (v:Value) (w':World),I (upd (fun j=>L.getD j false) i) (j9 vals i v) w'→wpAny P md ops Q fuel (L.setIfInBounds i true) ((fill (fun j=>L.getD j false) vals ops.toList 0 a0).put o.dst v) w':=by
  intro v w' h2
  have e1:∀ j,(L.setIfInBounds i true).getD j false=if j=i then true else L.getD j false:=fun j=>by
   simp only [Array.getD_eq_getD_getElem?]
   by_cases hji:j=i
   ·subst hji
    rw [Array.getElem?_setIfInBounds_self_of_lt (by omega)];simp
   rw [Array.getElem?_setIfInBounds_ne (fun e=>hji e.symm),if_neg hji]
  have e2:(fun j=>(L.setIfInBounds i true).getD j false)=upd (fun j=>L.getD j false) i:=funext e1;refine ih _ _ _ ?_ ⟨by simpa using hL,?_,j9 vals i v,by rw [e2];exact h2,?_⟩
  ·have:=gq (l:=fun j=>L.getD j false) (l':=fun j=>(L.setIfInBounds i true).getD j false) hun' (by rw [e1,if_pos rfl]) (fun j hj=>by rw [e1,if_neg hj]) ops.size hilt
   omega
  ·intro j x hx hlj e he hb
   show (L.setIfInBounds i true).getD e.on false=true
   replace hlj:(L.setIfInBounds i true).getD j false=true:=hlj;rw [e1] at hlj ⊢
   split
   ·rfl
   split at hlj
   ·rename_i hji
    subst hji;rw [ho] at hx;cases hx
    exact Cb e he hb
   exact hdc j x hx hlj e he hb
  rw [gh ops.toList 0 i o a0 hap (by rw [htl];exact ho) (by simpa using hun')];rw [Nat.zero_add];exact cE _ _ _ (fun j _ _=>(e1 j).symm) (fun _ _ _=>rfl)
 unfold wpOp;rw [ho];unfold qc at hst
 dsimp only
 split at hst
 ·rename_i hw
  rw [if_pos hw];refine Or.inl (Oper.wp_mono ?_ hst);rintro a' w' ⟨v,rfl,h2⟩;exact hnext v w' h2
 rename_i hw
 rw [if_neg hw];exact hnext undef w hst
theorem tZ {id:Nat} {ops:Array Oper} {a0:Act} {w:World} (I:(Nat→Bool)→(Nat→Value)→World→Prop) (hm:P.follows .mixedOrders=true) (hok:eg .any ops a0.tmps.size=true)
  (hS:∀ vals,I (fun _=>false) vals { w with drawn:=w.drawn+1 }) (hR:jU P Q .any ops I a0 ops.toList 0)
  (hF:∀ (l:Nat→Bool) (vals:Nat→Value) (w:World),(∀ i,i<ops.size→l i=true)→I l vals w→Q .normal (fill (fun _=>true) vals ops.toList 0 a0) w):(Code.region id ops true).wp P Q a0 w:=by
 have rep:∀ j,(Array.replicate ops.size false).getD j false=false:=fun j=>by
  rw [Array.getD_eq_getD_getElem?,Array.getElem?_replicate]
  split <;> rfl
 refine wp_region_any hm (tp hok hR hF _ _ _ _ ?_ ⟨by simp,?_,fun _=>undef,?_,?_⟩)
 ·have:∀ (l:Nat→Bool) n,left l n≤n:=fun l n=>by
   induction n with
   | zero=>exact wL _
   | succ n ih=>unfold left;split <;> omega
  exact this _ _
 ·intro i o hi hl
  replace hl:(Array.replicate ops.size false).getD i false=true:=hl;rw [rep] at hl;cases hl
 ·rw [show (fun j=>(Array.replicate ops.size false).getD j false)=fun _=>false from funext rep]
  exact hS _
 have:∀ (v:Nat→Value) (os:List Oper) (k:Nat) (a:Act),fill (fun _=>false) v os k a=a:=fun v os=>by
  induction os with
  | nil=>intro k a;rfl
  | cons x os ih=>intro k a;unfold fill;simp [ih]
 exact (this _ ops.toList 0 a0).symm.trans (cE _ _ _ (fun j _ hj=>(rep j).symm) (fun _ _ _=>rfl))
end Rg
namespace Rg
variable {P:Program} {Q:Exit→Act→World→Prop}
def jg (ops:Array Oper) (c d:Nat):Bool:=match ops[d]? with
 | some o=>o.after.toList.any (fun e=>Region.binds .any e && e.on == c)
 | none=>false
theorem ir {ops:Array Oper} {l:Nat→Bool} {c d:Nat} (hc:nS .any ops l) (he:jg ops c d=true) (hd:l d=true):l c=true:=by
 unfold jg at he
 split at he
 ·rename_i o ho
  obtain ⟨e,h1,h2⟩:=List.any_eq_true.1 he;rw [Bool.and_eq_true,beq_iff_eq] at h2;have:=hc d o ho hd e (Array.mem_toList_iff.1 h1) h2.1;rw [h2.2] at this;exact this
 cases he
theorem rK {ops:Array Oper} {l:Nat→Bool} {c d:Nat} {o:Oper} (ho:ops[d]?=some o) (FB:∀ e ∈ o.after,Region.binds .any e=true→l e.on=true) (he:jg ops c d=true):l c=true:=by
 unfold jg at he;rw [ho] at he;obtain ⟨e,h1,h2⟩:=List.any_eq_true.1 he;rw [Bool.and_eq_true,beq_iff_eq] at h2;have:=FB e (Array.mem_toList_iff.1 h1) h2.1;rw [h2.2] at this;exact this
end Rg
end
section
open Go.RowKit
def ij (w:World) (g:Nat) (l:List (Int × Int × Int)):Prop:=
 ∀ (k:Nat) (p:Int × Int × Int),l[k]?=some p→w.cell? ⟨g,k*3,none⟩=some (.int .i64 p.1)∧w.cell? ⟨g,k*3+1,none⟩=some (.int .i64 p.2.1)∧w.cell? ⟨g,k*3+2,none⟩=some (.int .i64 p.2.2)
theorem ij.below {w w':World} {g:Nat} {l:List (Int × Int × Int)} (h:ij w g l) (hb:Below w.heap.size w w'):ij w' g l:=fun k p hp=>by
 obtain ⟨h1,h2,h3⟩:=h k p hp;exact ⟨aE hb h1,aE hb h2,aE hb h3⟩
namespace M
noncomputable def bW (a b X Y E:Int):Bool:=good a b && bG a b X Y E
theorem bP {a b X Y E:Int} (h:bW a b X Y E=true):good a b=true∧bG a b X Y E=true:=by
 unfold bW at h
 rwa [Bool.and_eq_true] at h
noncomputable def dW (a b X Y E:Int):Sp:=gd (bW a b X Y E) (gF a b X E)
noncomputable def lw (a b X Y E:Int):Int:=pick (dW a b X Y E).isSome (bN a b X E:Nat)
theorem j0 (s:Sp):gd false s=none:=rfl
theorem kR {a b X Y E:Int} (hg:good a b=true) (hp:bG a b X Y E=true):Jl (gF a b X E):=by
 obtain ⟨p1,p2,p3,p4,-,-⟩:=be (ag hg) hp;exact rY (ag hg) p1 p2 p3 p4
end M
namespace M
theorem iI {a b X Y E:Int} (hg:good a b=true) (h:bG a b X Y E=true):AK a b X E=true:=by
 have hs:=du hg h;unfold gF at hs
 cases hb:AK a b X E with
 | true=>rfl
 | false=>rw [hb] at hs;simp at hs
end M
theorem iR (a b X Y E:Int) (w:World) :
  Calls Tryz.prog 10 #[.agg #[.int .i64 a,.int .i64 b],.agg #[.int .i64 X,.int .i64 Y,.int .i64 E]] w fun e w'=>e=.returned (.tuple #[.agg #[.int .i64 (M.yS (M.dW a b X Y E)),.int .i64 (M.yT (M.dW a b X Y E)),.int .i64 (M.yU (M.dW a b X Y E)),.int .i64 (M.yV (M.dW a b X Y E))],.int .i64 (M.lw a b X Y E),.bool (M.dW a b X Y E).isSome])∧Below w.heap.size w w':=by
 have PT:∀ W,Calls Tryz.prog 55 #[.agg #[.int .i64 a,.int .i64 b],.agg #[.int .i64 X,.int .i64 Y,.int .i64 E]] W fun e w'=>e=.returned (.bool (M.bW a b X Y E))∧Below W.heap.size W w':=fun W=>dL a b X Y E W
 unfold M.dW M.lw M.dW;obtain ⟨wc,hw3,C,Q,R,B⟩:=eJ w #[.int .i64 a,.int .i64 b] 25 #[.int .i64 X,.int .i64 Y,.int .i64 E] 27 #[.int .i64 0,.int .i64 0,.int .i64 0,.int .i64 0] 33;have f_:=C.box.c0;have g_:=C.box.c1;have ⟨q0,q1,q2⟩:=Q.aK
 cases h0:M.bW a b X Y E with
 | false=>
  simp only [h0,Bool.true_and,Bool.false_and,Bool.and_false] at PT ⊢;replace PT:=wH PT;rw [M.j0];go_enter Tryz.func10,Tryz.ntmps10
  go_wp2_with (first | (go_at_call 55;(with_reducible refine (PT.out _).mono ?_);rintro e w4 ⟨rfl,hb4⟩;replace B:=d_ B hb4;replace C:=C.keep hb4;replace Q:=Q.keep hb4;replace R:=R.keep hb4;have f_:=C.box.c0;have g_:=C.box.c1;(have ⟨q0,q1,q2⟩:=Q.aK);(have ⟨r0,r1,r2,r3,z0,z1,z2,z3,rl⟩:=R.aP)))
  exact bodyPost_ret (v:=.tuple #[.agg #[.int .i64 0,.int .i64 0,.int .i64 0,.int .i64 0],.int .i64 0,.bool false]) (by simp [results,Tryz.results10,go_sem, *]) rfl (⟨rfl,wJ (wJ (wJ (wJ B (by dsimp only;omega) _) (by dsimp only;omega) _) (by dsimp only;omega) _) (by dsimp only;omega) _⟩)
 | true=>
 simp only [h0,Bool.true_and,Bool.and_self] at PT ⊢;simp only [M.fz];replace PT:=wH PT;obtain ⟨hg,hp1⟩:=M.bP h0;obtain ⟨p1,p2,p3,p4,-,-⟩:=M.be (M.ag hg) hp1
 have PR:=fun W=>cw a b X Y E W hg p1 p2 p3 p4
 have ht:=M.iI hg hp1;have hS:=M.du hg hp1;have hok:M.Jl (M.gF a b X E):=M.kR hg hp1;clear h0 hg hp1 p1 p2 p3 p4;have hsp:M.aQ (M.bL a b X E (M.bN a b X E)) (M.bH a b X E (M.bN a b X E))=true:=ht;rw [hS];rw [ht] at PR;clear ht hS hok;generalize M.bH a b X E (M.bN a b X E)=hi,M.bL a b X E (M.bN a b X E)=lo at *;generalize ((M.bN a b X E:Nat):Int)=kk at *
 have hin:M.yS (some (lo,hi))=M.pn lo∧M.yT (some (lo,hi))=M.pd lo∧M.yU (some (lo,hi))=M.pn hi∧M.yV (some (lo,hi))=M.pd hi:=⟨rfl,rfl,rfl,rfl⟩
 obtain ⟨y1,y2,y3,y4⟩:=hin;rw [y1,y2,y3,y4,show (some (lo,hi)).isSome=true from rfl,M.bn];clear y1 y2 y3 y4
 have PI:=fun W=>eu lo hi true W
 rw [hsp] at PI;simp only [Bool.and_self,M.bn] at PI;clear hsp;generalize M.pd hi=i4,M.pn hi=i3,M.pd lo=i2,M.pn lo=i1 at *;replace PR:=wH PR;replace PI:=wH PI;go_enter Tryz.func10,Tryz.ntmps10
 go_wp2_with (first | (go_at_call 55;(with_reducible refine (PT.out _).mono ?_);rintro e w4 ⟨rfl,hb4⟩;replace B:=d_ B hb4;replace C:=C.keep hb4;replace Q:=Q.keep hb4;replace R:=R.keep hb4;have f_:=C.box.c0;have g_:=C.box.c1;(have ⟨q0,q1,q2⟩:=Q.aK);(have ⟨r0,r1,r2,r3,z0,z1,z2,z3,rl⟩:=R.aP)) | (go_at_call 61;(with_reducible refine (PR.out _).mono ?_);rintro e w7 ⟨rfl,wg⟩;replace B:=d_ B wg;replace C:=C.keep wg;replace Q:=Q.keep wg;replace R:=R.keep wg;have f_:=C.box.c0;have g_:=C.box.c1;(have ⟨q0,q1,q2⟩:=Q.aK);(have ⟨r0,r1,r2,r3,z0,z1,z2,z3,rl⟩:=R.aP);have B0:=B;have yK:=B.size;replace B:=B.alloc yK (.cells #[.int .i64 lo,.int .i64 hi] 74);replace R:=R.alloc (.cells #[.int .i64 lo,.int .i64 hi] 74);have V:=aH.new w7 #[.int .i64 lo,.int .i64 hi] 74;(have ⟨r0,r1,r2,r3,z0,z1,z2,z3,rl⟩:=R.aP);(have ⟨v0,v1,_,_,_⟩:=V.box)) | (go_at_call 58;(with_reducible refine (PI.out _).mono ?_);rintro e w8 ⟨rfl,xB⟩;replace B:=d_ B xB;replace R:=R.keep xB;(have ⟨r0,r1,r2,r3,z0,z1,z2,z3,rl⟩:=R.aP);have B0:=B;have HQ:=B.size;replace B:=B.alloc HQ (.cells #[.int .i64 i1,.int .i64 i2,.int .i64 i3,.int .i64 i4] 33);replace R:=R.alloc (.cells #[.int .i64 i1,.int .i64 i2,.int .i64 i3,.int .i64 i4] 33);have I:=aH.new w8 #[.int .i64 i1,.int .i64 i2,.int .i64 i3,.int .i64 i4] 33;(have ⟨r0,r1,r2,r3,z0,z1,z2,z3,rl⟩:=R.aP);(have ⟨n0,n1,n2,n3,m0,m1,m2,m3,ml⟩:=I.aP)))
 exact bodyPost_ret (v:=.tuple #[.agg #[.int .i64 i1,.int .i64 i2,.int .i64 i3,.int .i64 i4],.int .i64 kk,.bool true]) (by simp [results,Tryz.results10,go_sem, *]) rfl (⟨rfl,(wJ (wJ (wJ (wJ (B0) (by dsimp only;omega) _) (by dsimp only;omega) _) (by dsimp only;omega) _) (by dsimp only;omega) _).alloc (by simp only [lQ];exact HQ) _⟩)
theorem ic (a b X Y E:Int) (w:World) :
  Calls Tryz.prog 11 #[.agg #[.int .i64 a,.int .i64 b],.agg #[.int .i64 X,.int .i64 Y,.int .i64 E]] w fun e w'=>e=.returned (.tuple #[.agg #[.int .i64 (M.yS (M.dW a b X Y E)),.int .i64 (M.yT (M.dW a b X Y E)),.int .i64 (M.yU (M.dW a b X Y E)),.int .i64 (M.yV (M.dW a b X Y E))],.int .i64 (M.lw a b X Y E),.bool (M.dW a b X Y E).isSome])∧Below w.heap.size w w':=by
 have PT:∀ W,Calls Tryz.prog 62 #[.agg #[.int .i64 a,.int .i64 b],.agg #[.int .i64 X,.int .i64 Y,.int .i64 E]] W fun e w'=>e=.returned (.bool (M.bW a b X Y E))∧Below W.heap.size W w':=fun W=>cX a b X Y E W
 unfold M.dW M.lw M.dW;obtain ⟨wc,hw3,C,Q,R,B⟩:=eJ w #[.int .i64 a,.int .i64 b] 25 #[.int .i64 X,.int .i64 Y,.int .i64 E] 27 #[.int .i64 0,.int .i64 0,.int .i64 0,.int .i64 0] 33;have f_:=C.box.c0;have g_:=C.box.c1;have ⟨q0,q1,q2⟩:=Q.aK
 cases h0:M.bW a b X Y E with
 | false=>
  simp only [h0,Bool.true_and,Bool.false_and,Bool.and_false] at PT ⊢;replace PT:=wH PT;rw [M.j0];go_enter Tryz.func11,Tryz.ntmps11
  go_wp2_with (first | (go_at_call 62;(with_reducible refine (PT.out _).mono ?_);rintro e w4 ⟨rfl,hb4⟩;replace B:=d_ B hb4;replace C:=C.keep hb4;replace Q:=Q.keep hb4;replace R:=R.keep hb4;have f_:=C.box.c0;have g_:=C.box.c1;(have ⟨q0,q1,q2⟩:=Q.aK);(have ⟨r0,r1,r2,r3,z0,z1,z2,z3,rl⟩:=R.aP)))
  exact bodyPost_ret (v:=.tuple #[.agg #[.int .i64 0,.int .i64 0,.int .i64 0,.int .i64 0],.int .i64 0,.bool false]) (by simp [results,Tryz.results11,go_sem, *]) rfl (⟨rfl,wJ (wJ (wJ (wJ B (by dsimp only;omega) _) (by dsimp only;omega) _) (by dsimp only;omega) _) (by dsimp only;omega) _⟩)
 | true=>
 simp only [h0,Bool.true_and,Bool.and_self] at PT ⊢;simp only [M.fz];replace PT:=wH PT;obtain ⟨hg,hp1⟩:=M.bP h0;obtain ⟨p1,p2,p3,p4,-,-⟩:=M.be (M.ag hg) hp1
 have PR:=fun W=>eN a b X Y E W hg p1 p2 p3 p4
 have ht:=M.iI hg hp1;have hS:=M.du hg hp1;have hok:M.Jl (M.gF a b X E):=M.kR hg hp1;clear h0 hg hp1 p1 p2 p3 p4;have hsp:M.aQ (M.bL a b X E (M.bN a b X E)) (M.bH a b X E (M.bN a b X E))=true:=ht;rw [hS];rw [ht] at PR;clear ht hS hok;generalize M.bH a b X E (M.bN a b X E)=hi,M.bL a b X E (M.bN a b X E)=lo at *;generalize ((M.bN a b X E:Nat):Int)=kk at *
 have hin:M.yS (some (lo,hi))=M.pn lo∧M.yT (some (lo,hi))=M.pd lo∧M.yU (some (lo,hi))=M.pn hi∧M.yV (some (lo,hi))=M.pd hi:=⟨rfl,rfl,rfl,rfl⟩
 obtain ⟨y1,y2,y3,y4⟩:=hin;rw [y1,y2,y3,y4,show (some (lo,hi)).isSome=true from rfl,M.bn];clear y1 y2 y3 y4;simp only [M.bn] at PR;clear hsp;generalize M.pd hi=i4,M.pn hi=i3,M.pd lo=i2,M.pn lo=i1 at *;replace PR:=wH PR;go_enter Tryz.func11,Tryz.ntmps11
 go_wp2_with (first | (go_at_call 62;(with_reducible refine (PT.out _).mono ?_);rintro e w4 ⟨rfl,hb4⟩;replace B:=d_ B hb4;replace C:=C.keep hb4;replace Q:=Q.keep hb4;replace R:=R.keep hb4;have f_:=C.box.c0;have g_:=C.box.c1;(have ⟨q0,q1,q2⟩:=Q.aK);(have ⟨r0,r1,r2,r3,z0,z1,z2,z3,rl⟩:=R.aP)) | (go_at_call 63;(with_reducible refine (PR.out _).mono ?_);rintro e w7 ⟨rfl,wg⟩;replace B:=d_ B wg;replace R:=R.keep wg;(have ⟨r0,r1,r2,r3,z0,z1,z2,z3,rl⟩:=R.aP)))
 exact bodyPost_ret (v:=.tuple #[.agg #[.int .i64 i1,.int .i64 i2,.int .i64 i3,.int .i64 i4],.int .i64 kk,.bool true]) (by simp [results,Tryz.results11,go_sem, *]) rfl (⟨rfl,wJ (wJ (wJ (wJ B (by dsimp only;omega) _) (by dsimp only;omega) _) (by dsimp only;omega) _) (by dsimp only;omega) _⟩)
theorem aH.qM {W:World} {g:Nat} {T:TypeId} {u v x:Value} (h:aH W g T #[u,v,x]) (a b c:Value):aH (((W.setCell ⟨g,0,none⟩ a).setCell ⟨g,1,none⟩ b).setCell ⟨g,2,none⟩ c) g T #[a,b,c]:=((h.set 0 a).set 1 b).set 2 c
theorem aH.bF {W:World} {g:Nat} {T:TypeId} {u v x:Value} (h:aH W g T #[u,v,x]):W.cell? ⟨g,0,none⟩=some u∧W.cell? ⟨g,1,none⟩=some v∧W.cell? ⟨g,2,none⟩=some x∧W.frozen? ⟨g,0,none⟩=false∧W.frozen? ⟨g,1,none⟩=false∧W.frozen? ⟨g,2,none⟩=false:=⟨h.cell 0,h.cell 1,h.cell 2,h.xC 0,h.xC 1,h.xC 2⟩
theorem qO {a b:Int} (h1:a≤b) (h2:-409600000≤a) (h3:b≤409600000):M.aQ a b=true:=by
 unfold M.aQ;simp only [Bool.and_eq_true,decide_eq_true_eq];omega
end
section
namespace M
theorem HB.one {a b X Y E l h l' h':Int} (p:HB a b X Y E l h) (q:HB a b X Y E l' h'):l=l'∧h=h':=by
 have:=p.is.symm.trans q.is
 injection this with e
 injection e with e1 e2
 exact ⟨e1,e2⟩
end M
end
section
open Go.RowKit
theorem mw (lo hi:Int) (w:World) (h:M.aQ lo hi=true) :
  Calls Tryz.prog 66 #[.agg #[.int .i64 (M.pn lo),.int .i64 (M.pd lo),.int .i64 (M.pn hi),.int .i64 (M.pd hi)]] w fun e w'=>e=.returned (.tuple #[.agg #[.int .i64 lo,.int .i64 hi],.bool true])∧Below w.heap.size w w':=by
 obtain ⟨ab,a1,b1⟩:=M.b8 h;obtain ⟨hk1,d1,d2,hm1,hp1,g1,g2,n1,n2⟩:=M.eK (M.bS (a:=lo) (by omega) (by omega));obtain ⟨hk2,e1,e2,hm2,hp2,g3,g4,n3,n4⟩:=M.eK (M.bS (a:=hi) (by omega) (by omega))
 have P1:=fun W=>ew (M.pn lo) (M.pd lo) W
 have P2:=fun W=>ew (M.pn hi) (M.pd hi) W
 rw [hk1] at P1;rw [hk2] at P2
 have PV:=fun W=>jN lo hi W
 rw [h] at PV;replace PV:=wH PV;clear h;generalize M.pd hi=y2,M.pn hi=x2,M.pd lo=y1,M.pn lo=x1 at *
 have hy1:¬ y1=0:=by omega
 have hy2:¬ y2=0:=by omega
 have ht1:(4096:Int).tmod y1=0:=by rw [Int.tmod_eq_emod_of_nonneg (by omega)];exact hm1
 have ht2:(4096:Int).tmod y2=0:=by rw [Int.tmod_eq_emod_of_nonneg (by omega)];exact hm2
 have hq1:(4096:Int).tdiv y1=4096 / y1:=Int.tdiv_eq_ediv_of_nonneg (by omega);have hq2:(4096:Int).tdiv y2=4096 / y2:=Int.tdiv_eq_ediv_of_nonneg (by omega);generalize 4096 / y2=t2,4096 / y1=t1 at *;replace P1:=wH P1;replace P2:=wH P2;clear hk1 hk2 hm1 hm2;obtain ⟨wc,hw3,C,R2,B⟩:=el w #[.int .i64 x1,.int .i64 y1,.int .i64 x2,.int .i64 y2] 33 #[.int .i64 0,.int .i64 0] 74;have ⟨r0,r1,r2,r3,_,_,_,_,_⟩:=C.aP;go_enter Tryz.func66,Tryz.ntmps66
 go_upto_region 3 with (first | (go_at_call 121;(with_reducible refine (P1.out _).mono ?_);rintro e w4 ⟨rfl,hb4⟩;replace B:=d_ B hb4;replace C:=C.keep hb4;replace R2:=R2.keep hb4;(have ⟨r0,r1,r2,r3,_,_,_,_,_⟩:=C.aP);(have ⟨s0,s1,Ov,Ow,rl⟩:=R2.box)) | (go_at_call 121;(with_reducible refine (P2.out _).mono ?_);rintro e w5 ⟨rfl,hb5⟩;replace B:=d_ B hb5;replace C:=C.keep hb5;replace R2:=R2.keep hb5;(have ⟨r0,r1,r2,r3,_,_,_,_,_⟩:=C.aP);(have ⟨s0,s1,Ov,Ow,rl⟩:=R2.box)))
 refine Rg.bO 18 [.is (.pointer (some ⟨w.heap.size,0,none⟩)),.is (.pointer (some ⟨w.heap.size,0,none⟩)),.is (.int .i64 x1),.is (.pointer (some ⟨w.heap.size,0,none⟩)),.is (.pointer (some ⟨w.heap.size,1,none⟩)),.is (.int .i64 y1),.is (.int .i64 t1),.is (.int .i64 lo),.is (.pointer (some ⟨w.heap.size,2,none⟩)),.is (.pointer (some ⟨w.heap.size,2,none⟩)),.is (.int .i64 x2),.is (.pointer (some ⟨w.heap.size,2,none⟩)),.is (.pointer (some ⟨w.heap.size,3,none⟩)),.is (.int .i64 y2),.is (.int .i64 t2),.is (.int .i64 hi),.is (.agg #[.int .i64 lo,.int .i64 hi]),.new (w5.heap.size) 74 #[.int .i64 0,.int .i64 0]] (by kernel_rfl) (by kernel_rfl) (by kernel_rfl) ⟨?_,?_,?_,?_,?_,?_,?_,?_,?_,?_,?_,?_,?_,?_,?_,?_,?_,?_,fun h_=>absurd h_ (by decide),trivial⟩ ?_
 ·intro _ zZ w_ hB hr
  have e1:zZ.tmps[1]?=some (.pointer (some ⟨w.heap.size,0,none⟩)):=hr 1 (by decide);exact Rg.aG rfl (by go_simp)
 ·intro _ zZ w_ hB hr
  have e30:=Rg.c_ (hr 30 (by decide));exact Rg.aG rfl (by go_simp)
 ·intro _ zZ w_ hB hr
  have e31:=Rg.c_ (hr 31 (by decide));have k0:=aE hB r0;exact Rg.aG rfl (by go_simp)
 ·intro _ zZ w_ hB hr
  have e1:zZ.tmps[1]?=some (.pointer (some ⟨w.heap.size,0,none⟩)):=hr 1 (by decide);exact Rg.aG rfl (by go_simp)
 ·intro _ zZ w_ hB hr
  have e33:=Rg.c_ (hr 33 (by decide));exact Rg.aG rfl (by go_simp)
 ·intro _ zZ w_ hB hr
  have e34:=Rg.c_ (hr 34 (by decide));have k1:=aE hB r1;exact Rg.aG rfl (by go_simp)
 ·intro _ zZ w_ hB hr
  have e35:=Rg.c_ (hr 35 (by decide));have ec:=Rg.ec zZ;exact Rg.aG rfl (by go_simp <;> exact Rg.wo (by omega))
 ·intro _ zZ w_ hB hr
  have e32:=Rg.c_ (hr 32 (by decide));have e36:=Rg.c_ (hr 36 (by decide));exact Rg.aG rfl (by go_simp <;> exact Rg.wo (by omega))
 ·intro _ zZ w_ hB hr
  have e1:zZ.tmps[1]?=some (.pointer (some ⟨w.heap.size,0,none⟩)):=hr 1 (by decide);exact Rg.aG rfl (by go_simp)
 ·intro _ zZ w_ hB hr
  have e38:=Rg.c_ (hr 38 (by decide));exact Rg.aG rfl (by go_simp)
 ·intro _ zZ w_ hB hr
  have e39:=Rg.c_ (hr 39 (by decide));have k2:=aE hB r2;exact Rg.aG rfl (by go_simp)
 ·intro _ zZ w_ hB hr
  have e1:zZ.tmps[1]?=some (.pointer (some ⟨w.heap.size,0,none⟩)):=hr 1 (by decide);exact Rg.aG rfl (by go_simp)
 ·intro _ zZ w_ hB hr
  have e41:=Rg.c_ (hr 41 (by decide));exact Rg.aG rfl (by go_simp)
 ·intro _ zZ w_ hB hr
  have e42:=Rg.c_ (hr 42 (by decide));have k3:=aE hB r3;exact Rg.aG rfl (by go_simp)
 ·intro _ zZ w_ hB hr
  have e43:=Rg.c_ (hr 43 (by decide));have ec:=Rg.ec zZ;exact Rg.aG rfl (by go_simp <;> exact Rg.wo (by omega))
 ·intro _ zZ w_ hB hr
  have e40:=Rg.c_ (hr 40 (by decide));have e44:=Rg.c_ (hr 44 (by decide));exact Rg.aG rfl (by go_simp <;> exact Rg.wo (by omega))
 ·intro _ zZ w_ hB hr
  have e37:=Rg.c_ (hr 37 (by decide));have e45:=Rg.c_ (hr 45 (by decide));exact Rg.aG rfl (by first | (go_simp;done) | (go_simp;rfl))
 ·intro _ zZ w_ hB hr
  exact ⟨by have:=hB.size;omega,rfl,by first | (go_simp;done) | (go_simp;rfl)⟩
 intro vals wh hB hv hne;have n4:(Rg.Val.new (w5.heap.size) 74 #[.int .i64 0,.int .i64 0]).ok (vals 17) wh:=hv 17 (by decide);have I0:vals 16=.agg #[.int .i64 lo,.int .i64 hi]:=hv 16 (by decide);simp only [Rg.ay,Rg.fill,Act.put,Nat.reduceAdd];clear hv;obtain ⟨g4,hg4,I1,o4⟩:=n4;replace o4:aH wh g4 74 #[.int .i64 0,.int .i64 0]:=o4;simp only [I1,I0];clear I1 I0;have ⟨yz,y6,y7,ym,_⟩:=o4.box;unfold Rg.aZ Rg.aZ Oper.wp
 go_simp
 have hB2:Below w5.heap.size w5 ((wh.setCell ⟨g4,0,none⟩ (.int .i64 lo)).setCell ⟨g4,1,none⟩ (.int .i64 hi)):=wJ (wJ hB hg4 _) hg4 _;have T:=aH.set2 o4 (.int .i64 lo) (.int .i64 hi);generalize ((wh.setCell ⟨g4,0,none⟩ (.int .i64 lo)).setCell ⟨g4,1,none⟩ (.int .i64 hi))=wi at *;clear yz y6 y7 ym o4 hB hne r0 r1 r2 r3 s0 s1 Ov Ow;replace B:=d_ B hB2;replace R2:=R2.keep hB2;clear hB2;have ⟨Fm,yW,_,_,_⟩:=T.box;have ⟨s0,s1,Ov,Ow,_⟩:=R2.box
 go_upto_region 4 with fail
 refine Rg.bO 3 [.is (.agg #[.int .i64 lo,.int .i64 hi]),.is (.agg #[.int .i64 lo,.int .i64 hi]),.is (.bool true)] (by kernel_rfl) (by kernel_rfl) (by kernel_rfl) ⟨?_,?_,?_,fun h_=>absurd h_ (by decide),fun h_=>absurd h_ (by decide),trivial⟩ ?_
 ·intro _ zZ w_ hB hr
  have e4:zZ.tmps[4]?=some (.pointer (some ⟨g4,0,none⟩)):=hr 4 (by decide);have k0:=aE hB Fm;have k1:=aE hB yW;exact Rg.aG rfl (by go_simp)
 ·intro _ zZ w_ hB hr
  have e4:zZ.tmps[4]?=some (.pointer (some ⟨g4,0,none⟩)):=hr 4 (by decide);have k0:=aE hB Fm;have k1:=aE hB yW;exact Rg.aG rfl (by go_simp)
 ·intro _ zZ w_ hB hr
  have e48:=Rg.c_ (hr 48 (by decide));have ef:=Rg.ef zZ;exact Rg.bo rfl (by go_simp) (PV.out _)
 intro vals wj hB hv hne;have v_0:vals 0=.agg #[.int .i64 lo,.int .i64 hi]:=hv 0 (by decide);have I4:vals 2=.bool true:=hv 2 (by decide);simp only [Rg.ay,Rg.fill,Act.put,Nat.reduceAdd];clear hv;simp only [v_0,I4];clear v_0 I4;replace B:=d_ B hB;replace R2:=R2.keep hB;have ⟨s2,s3,zf2,zf3,_⟩:=R2.box;clear hne hB;unfold Rg.aZ Rg.aZ Rg.aZ Oper.wp
 go_simp
 go_wp2;exact bodyPost_ret (v:=.tuple #[.agg #[.int .i64 lo,.int .i64 hi],.bool true]) (by simp [results,Tryz.results66,go_sem, *]) rfl (⟨rfl,wJ (wJ B (by dsimp only;omega) _) (by dsimp only;omega) _⟩)
def kC (w:World) (g B:Nat) (v:Value) (n K:Nat) (e:Ending) (w':World):Prop:=
 ∃ a b:Int,e=.returned (.agg #[.int .i64 a,.int .i64 b])∧cN w' g B v n K∧w.grownBy w' (some g)
theorem sv (g B:Nat) (v:Value) (n K:Nat) (w:World) (h:cN w g B v n K) (hk:K≤700000000) :
  Calls Tryz.prog 125 #[.pointer (some ⟨g,0,none⟩)] w (kC w g B v n (K+40)):=by
 have st:=(St.start h).alloc (.cells #[.int .i64 0,.int .i64 0] 25);have zr:=AA.new w 0 0 25
 have CD:w.heap.size≠g:=by have:=h.size;omega
 have hl:=h.size;have hB:=st.lt;clear h;go_enter Tryz.func125,Tryz.ntmps125
 go_wp2_with fail
 refine (cJ g B v n _ 41 _ st.cur (by omega) (by omega) (by omega)).mono ?_;rintro e I_ ⟨x1,rfl,⟨x1_lo,x1_hi⟩,t_,j_⟩;replace st:=st.call t_ j_;have Iv:=j_.size;replace zr:=zr.aR j_ CD;clear t_ j_
 go_wp2_with fail
 refine (cJ g B v n _ 2001 _ st.cur (by omega) (by omega) (by omega)).mono ?_;rintro e JA ⟨x2,rfl,⟨x2_lo,x2_hi⟩,t_,j_⟩;replace st:=st.call t_ j_;have Iw:=j_.size;replace zr:=zr.aR j_ CD;clear t_ j_
 go_wp2_with fail
 have xv:=st;replace st:=st.alloc (.cells #[.int .i64 (-16),.int .i64 (-1),.int .i64 0,.int .i64 1,.int .i64 (-2),.int .i64 (-7),.int .i64 (-25),.int .i64 4,.int .i64 (x1 - 20),.int .i64 (x2 - 1000)] 3);replace zr:=zr.alloc (.cells #[.int .i64 (-16),.int .i64 (-1),.int .i64 0,.int .i64 1,.int .i64 (-2),.int .i64 (-7),.int .i64 (-25),.int .i64 4,.int .i64 (x1 - 20),.int .i64 (x2 - 1000)] 3);refine (cI g B v n _ [-16,-1,0,1,-2,-7,-25,4,x1 - 20,x2 - 1000] (JA).heap.size 10 _ st.cur (by omega) rfl (by omega) (by omega) (by have:=xv.size;omega) (bT _ _ _)).mono ?_;rintro e w_a ⟨a,rfl,-,t_,j_⟩;replace st:=st.call t_ j_;have sz_a:=j_.size;replace zr:=zr.aR j_ CD;clear xv t_ j_
 go_wp2_with fail
 refine (cJ g B v n _ 41 _ st.cur (by omega) (by omega) (by omega)).mono ?_;rintro e Ok ⟨x3,rfl,⟨JC,JB⟩,t_,j_⟩;replace st:=st.call t_ j_;have Ix:=j_.size;replace zr:=zr.aR j_ CD;clear t_ j_
 go_wp2_with fail
 refine (cJ g B v n _ 20001 _ st.cur (by omega) (by omega) (by omega)).mono ?_;rintro e Ol ⟨x4,rfl,⟨x4_lo,x4_hi⟩,t_,j_⟩;replace st:=st.call t_ j_;have sz_x4:=j_.size;replace zr:=zr.aR j_ CD;clear t_ j_
 go_wp2_with fail
 have xv:=st;replace st:=st.alloc (.cells #[.int .i64 16,.int .i64 0,.int .i64 0,.int .i64 1,.int .i64 (-1),.int .i64 10,.int .i64 36,.int .i64 (x3 - 20),.int .i64 (x4 - 10000)] 3);replace zr:=zr.alloc (.cells #[.int .i64 16,.int .i64 0,.int .i64 0,.int .i64 1,.int .i64 (-1),.int .i64 10,.int .i64 36,.int .i64 (x3 - 20),.int .i64 (x4 - 10000)] 3);refine (cI g B v n _ [16,0,0,1,-1,10,36,x3 - 20,x4 - 10000] (Ol).heap.size 9 _ st.cur (by omega) rfl (by omega) (by omega) (by have:=xv.size;omega) (bT _ _ _)).mono ?_;rintro e Jw ⟨b,rfl,-,t_,j_⟩;replace st:=st.call t_ j_;have sz_b:=j_.size;replace zr:=zr.aR j_ CD;clear xv t_ j_;have se:=st.size;have sl:=st.le;have sr:=zr.size;replace st:=st.alloc (.cells #[.int .i64 a,.int .i64 b] 25);replace zr:=zr.alloc (.cells #[.int .i64 a,.int .i64 b] 25);have ex:=AA.new Jw a b 25
 have FK:Jw.heap.size≠g:=by omega
 have Jh:w.heap.size≠Jw.heap.size:=by omega
 have nxr:=Jh.symm
 go_wp2_with fail
 generalize hE:Jw.heap.size=E at *
 have Nc:w.heap.size≤E:=by omega
 have MP:B≤E:=by omega
 clear hE;refine (gv g B v n _ 8 _ st.cur (by omega) (by omega) (by omega)).mono ?_;rintro e Oi ⟨t1,rfl,t_,j_⟩;replace st:=st.call t_ j_;have Is:=j_.size;replace zr:=zr.aR j_ CD;replace ex:=ex.aR j_ FK;clear t_ j_;cases t1
 case false=>
  go_wp2_with fail
  refine (gv g B v n _ 16 _ st.cur (by omega) (by omega) (by omega)).mono ?_;rintro e HD ⟨t2,rfl,t_,j_⟩;replace st:=st.call t_ j_;have It:=j_.size;replace zr:=zr.aR j_ CD;replace ex:=ex.aR j_ FK;clear t_ j_;cases t2
  case false=>
   have xd:=ex.c0;have xe:=ex.c1;have xf:=ex.f0;have xg:=ex.f1;have xh:=ex.size
   go_wp2_with fail
   have HG:=fun w=>dO a b w
   cases hg:M.good a b <;> simp only [hg] at HG <;> have HG:=wH HG <;> clear hg
   all_goals
    refine (HG.out _).mono ?_;rintro e w9 ⟨rfl,wb⟩;replace st:=st.keep wb;replace zr:=zr.keep wb;clear xd xe xf xg xh;replace ex:=ex.keep wb;clear wb;have xd:=ex.c0;have xe:=ex.c1;have xf:=ex.f0;have xg:=ex.f1;have xh:=ex.size;have D6:=zr.c0;have D7:=zr.c1;have D8:=zr.f0;have D9:=zr.f1;have D_:=zr.size;go_wp2
   ·exact bodyPost_ret (v:=.agg #[.int .i64 (-16),.int .i64 16]) (by simp [results,Tryz.results125,go_sem, *]) rfl (⟨-16,16,rfl,(st.store (c:=w.heap.size) (x:=.int .i64 (-16)) (y:=.int .i64 16) (wL _) (by omega) (by omega)).cur.mono (by omega),(st.store (c:=w.heap.size) (x:=.int .i64 (-16)) (y:=.int .i64 16) (wL _) (by omega) (by omega)).gr⟩)
   exact bodyPost_ret (v:=.agg #[.int .i64 a,.int .i64 b]) (by simp [results,Tryz.results125,go_sem, *]) rfl (⟨a,b,rfl,(st.store (c:=w.heap.size) (x:=.int .i64 a) (y:=.int .i64 b) (wL _) (by omega) (by omega)).cur.mono (by omega),(st.store (c:=w.heap.size) (x:=.int .i64 a) (y:=.int .i64 b) (wL _) (by omega) (by omega)).gr⟩)
  case true=>
  go_wp2_with fail
  have xv:=st;replace st:=st.alloc (.cells #[.int .i64 (-1000),.int .i64 1000] 3);replace zr:=zr.alloc (.cells #[.int .i64 (-1000),.int .i64 1000] 3);replace ex:=ex.alloc (.cells #[.int .i64 (-1000),.int .i64 1000] 3);refine (cI g B v n _ [-1000,1000] (HD).heap.size 2 _ st.cur (by omega) rfl (by omega) (by omega) (by have:=xv.size;omega) (bT _ _ _)).mono ?_;rintro e HE ⟨y1,rfl,-,t_,j_⟩;replace st:=st.call t_ j_;have Iy:=j_.size;replace zr:=zr.aR j_ CD;replace ex:=ex.aR j_ FK;clear xv t_ j_
  go_wp2_with fail
  have xv:=st;replace st:=st.alloc (.cells #[.int .i64 (-10000),.int .i64 10000] 3);replace zr:=zr.alloc (.cells #[.int .i64 (-10000),.int .i64 10000] 3);replace ex:=ex.alloc (.cells #[.int .i64 (-10000),.int .i64 10000] 3);refine (cI g B v n _ [-10000,10000] (HE).heap.size 2 _ st.cur (by omega) rfl (by omega) (by omega) (by have:=xv.size;omega) (bT _ _ _)).mono ?_;rintro e HF ⟨y2,rfl,-,t_,j_⟩;replace st:=st.call t_ j_;have Iz:=j_.size;replace zr:=zr.aR j_ CD;replace ex:=ex.aR j_ FK;clear xv t_ j_;have xd:=ex.c0;have xe:=ex.c1;have xf:=ex.f0;have xg:=ex.f1;have xh:=ex.size;have Fb:=ex.store y1 y2;have Fo:=zr.other Jh (.int .i64 y1) (.int .i64 y2);have st2:=st.store (c:=E) Nc (by omega) MP (.int .i64 y1) (.int .i64 y2)
  go_upto_region 6 with fail
  clear xd xe xf xg xh;clear ex zr st;have ex:=Fb;have zr:=Fo;have st:=st2;clear Fb Fo st2;generalize (HF.setCell ⟨E,0,none⟩ (.int .i64 y1)).setCell ⟨E,1,none⟩ (.int .i64 y2)=w8 at *;have xd:=ex.c0;have xe:=ex.c1;have xf:=ex.f0;have xg:=ex.f1;have xh:=ex.size
  go_wp2_with fail
  have HG:=fun w=>dO y1 y2 w
  cases hg:M.good y1 y2 <;> simp only [hg] at HG <;> have HG:=wH HG <;> clear hg
  all_goals
   refine (HG.out _).mono ?_;rintro e w9 ⟨rfl,wb⟩;replace st:=st.keep wb;replace zr:=zr.keep wb;clear xd xe xf xg xh;replace ex:=ex.keep wb;clear wb;have xd:=ex.c0;have xe:=ex.c1;have xf:=ex.f0;have xg:=ex.f1;have xh:=ex.size;have D6:=zr.c0;have D7:=zr.c1;have D8:=zr.f0;have D9:=zr.f1;have D_:=zr.size;go_wp2
  ·exact bodyPost_ret (v:=.agg #[.int .i64 (-16),.int .i64 16]) (by simp [results,Tryz.results125,go_sem, *]) rfl (⟨-16,16,rfl,(st.store (c:=w.heap.size) (x:=.int .i64 (-16)) (y:=.int .i64 16) (wL _) (by omega) (by omega)).cur.mono (by omega),(st.store (c:=w.heap.size) (x:=.int .i64 (-16)) (y:=.int .i64 16) (wL _) (by omega) (by omega)).gr⟩)
  exact bodyPost_ret (v:=.agg #[.int .i64 y1,.int .i64 y2]) (by simp [results,Tryz.results125,go_sem, *]) rfl (⟨y1,y2,rfl,(st.store (c:=w.heap.size) (x:=.int .i64 y1) (y:=.int .i64 y2) (wL _) (by omega) (by omega)).cur.mono (by omega),(st.store (c:=w.heap.size) (x:=.int .i64 y1) (y:=.int .i64 y2) (wL _) (by omega) (by omega)).gr⟩)
 case true=>
 go_wp2_with fail
 refine (cJ g B v n _ 21 _ st.cur (by omega) (by omega) (by omega)).mono ?_;rintro e w_u1 ⟨u1,rfl,⟨u1_lo,u1_hi⟩,t_,j_⟩;replace st:=st.call t_ j_;have sz_u1:=j_.size;replace zr:=zr.aR j_ CD;replace ex:=ex.aR j_ FK;clear t_ j_
 go_wp2_with fail
 refine (cJ g B v n _ 21 _ st.cur (by omega) (by omega) (by omega)).mono ?_;rintro e Oj ⟨u2,rfl,⟨u2_lo,u2_hi⟩,t_,j_⟩;replace st:=st.call t_ j_;have sz_u2:=j_.size;replace zr:=zr.aR j_ CD;replace ex:=ex.aR j_ FK;clear t_ j_;have xd:=ex.c0;have xe:=ex.c1;have xf:=ex.f0;have xg:=ex.f1;have xh:=ex.size;have Fb:=ex.store (16*(u1 - 10)) (64*(u2 - 10));have Fo:=zr.other Jh (.int .i64 (16*(u1 - 10))) (.int .i64 (64*(u2 - 10)));have st2:=st.store (c:=E) Nc (by omega) MP (.int .i64 (16*(u1 - 10))) (.int .i64 (64*(u2 - 10)))
 go_upto_region 4 with fail
 clear xd xe xf xg xh;clear ex zr st;have ex:=Fb;have zr:=Fo;have st:=st2;clear Fb Fo st2;generalize 64*(u2 - 10)=b2,16*(u1 - 10)=a2,(Oj.setCell ⟨E,0,none⟩ (.int .i64 (16*(u1 - 10)))).setCell ⟨E,1,none⟩ (.int .i64 (64*(u2 - 10)))=w7 at *
 go_wp2_with fail
 refine (gv g B v n _ 16 _ st.cur (by omega) (by omega) (by omega)).mono ?_;rintro e HD ⟨t2,rfl,t_,j_⟩;replace st:=st.call t_ j_;have It:=j_.size;replace zr:=zr.aR j_ CD;replace ex:=ex.aR j_ FK;clear t_ j_;cases t2
 case false=>
  have xd:=ex.c0;have xe:=ex.c1;have xf:=ex.f0;have xg:=ex.f1;have xh:=ex.size
  go_wp2_with fail
  have HG:=fun w=>dO a2 b2 w
  cases hg:M.good a2 b2 <;> simp only [hg] at HG <;> have HG:=wH HG <;> clear hg
  all_goals
   refine (HG.out _).mono ?_;rintro e w9 ⟨rfl,wb⟩;replace st:=st.keep wb;replace zr:=zr.keep wb;clear xd xe xf xg xh;replace ex:=ex.keep wb;clear wb;have xd:=ex.c0;have xe:=ex.c1;have xf:=ex.f0;have xg:=ex.f1;have xh:=ex.size;have D6:=zr.c0;have D7:=zr.c1;have D8:=zr.f0;have D9:=zr.f1;have D_:=zr.size;go_wp2
  ·exact bodyPost_ret (v:=.agg #[.int .i64 (-16),.int .i64 16]) (by simp [results,Tryz.results125,go_sem, *]) rfl (⟨-16,16,rfl,(st.store (c:=w.heap.size) (x:=.int .i64 (-16)) (y:=.int .i64 16) (wL _) (by omega) (by omega)).cur.mono (by omega),(st.store (c:=w.heap.size) (x:=.int .i64 (-16)) (y:=.int .i64 16) (wL _) (by omega) (by omega)).gr⟩)
  exact bodyPost_ret (v:=.agg #[.int .i64 a2,.int .i64 b2]) (by simp [results,Tryz.results125,go_sem, *]) rfl (⟨a2,b2,rfl,(st.store (c:=w.heap.size) (x:=.int .i64 a2) (y:=.int .i64 b2) (wL _) (by omega) (by omega)).cur.mono (by omega),(st.store (c:=w.heap.size) (x:=.int .i64 a2) (y:=.int .i64 b2) (wL _) (by omega) (by omega)).gr⟩)
 case true=>
 go_wp2_with fail
 have xv:=st;replace st:=st.alloc (.cells #[.int .i64 (-1000),.int .i64 1000] 3);replace zr:=zr.alloc (.cells #[.int .i64 (-1000),.int .i64 1000] 3);replace ex:=ex.alloc (.cells #[.int .i64 (-1000),.int .i64 1000] 3);refine (cI g B v n _ [-1000,1000] (HD).heap.size 2 _ st.cur (by omega) rfl (by omega) (by omega) (by have:=xv.size;omega) (bT _ _ _)).mono ?_;rintro e HE ⟨y1,rfl,-,t_,j_⟩;replace st:=st.call t_ j_;have Iy:=j_.size;replace zr:=zr.aR j_ CD;replace ex:=ex.aR j_ FK;clear xv t_ j_
 go_wp2_with fail
 have xv:=st;replace st:=st.alloc (.cells #[.int .i64 (-10000),.int .i64 10000] 3);replace zr:=zr.alloc (.cells #[.int .i64 (-10000),.int .i64 10000] 3);replace ex:=ex.alloc (.cells #[.int .i64 (-10000),.int .i64 10000] 3);refine (cI g B v n _ [-10000,10000] (HE).heap.size 2 _ st.cur (by omega) rfl (by omega) (by omega) (by have:=xv.size;omega) (bT _ _ _)).mono ?_;rintro e HF ⟨y2,rfl,-,t_,j_⟩;replace st:=st.call t_ j_;have Iz:=j_.size;replace zr:=zr.aR j_ CD;replace ex:=ex.aR j_ FK;clear xv t_ j_;have xd:=ex.c0;have xe:=ex.c1;have xf:=ex.f0;have xg:=ex.f1;have xh:=ex.size;have Fb:=ex.store y1 y2;have Fo:=zr.other Jh (.int .i64 y1) (.int .i64 y2);have st2:=st.store (c:=E) Nc (by omega) MP (.int .i64 y1) (.int .i64 y2)
 go_upto_region 6 with fail
 clear xd xe xf xg xh;clear ex zr st;have ex:=Fb;have zr:=Fo;have st:=st2;clear Fb Fo st2;generalize (HF.setCell ⟨E,0,none⟩ (.int .i64 y1)).setCell ⟨E,1,none⟩ (.int .i64 y2)=w8 at *;have xd:=ex.c0;have xe:=ex.c1;have xf:=ex.f0;have xg:=ex.f1;have xh:=ex.size
 go_wp2_with fail
 have HG:=fun w=>dO y1 y2 w
 cases hg:M.good y1 y2 <;> simp only [hg] at HG <;> have HG:=wH HG <;> clear hg
 all_goals
  refine (HG.out _).mono ?_;rintro e w9 ⟨rfl,wb⟩;replace st:=st.keep wb;replace zr:=zr.keep wb;clear xd xe xf xg xh;replace ex:=ex.keep wb;clear wb;have xd:=ex.c0;have xe:=ex.c1;have xf:=ex.f0;have xg:=ex.f1;have xh:=ex.size;have D6:=zr.c0;have D7:=zr.c1;have D8:=zr.f0;have D9:=zr.f1;have D_:=zr.size;go_wp2
 ·exact bodyPost_ret (v:=.agg #[.int .i64 (-16),.int .i64 16]) (by simp [results,Tryz.results125,go_sem, *]) rfl (⟨-16,16,rfl,(st.store (c:=w.heap.size) (x:=.int .i64 (-16)) (y:=.int .i64 16) (wL _) (by omega) (by omega)).cur.mono (by omega),(st.store (c:=w.heap.size) (x:=.int .i64 (-16)) (y:=.int .i64 16) (wL _) (by omega) (by omega)).gr⟩)
 exact bodyPost_ret (v:=.agg #[.int .i64 y1,.int .i64 y2]) (by simp [results,Tryz.results125,go_sem, *]) rfl (⟨y1,y2,rfl,(st.store (c:=w.heap.size) (x:=.int .i64 y1) (y:=.int .i64 y2) (wL _) (by omega) (by omega)).cur.mono (by omega),(st.store (c:=w.heap.size) (x:=.int .i64 y1) (y:=.int .i64 y2) (wL _) (by omega) (by omega)).gr⟩)
end
section
open Go Go.RowKit
namespace Rg
variable {P:Program} {Q:Exit→Act→World→Prop}
section
variable (P) (Q) (ops:Array Oper) (a0:Act) (T:List Value) (J:Nat→(Nat→Value)→World→Prop) (C:List Nat)
def oL (o:Oper) (a:Act) (vals:Nat→Value) (t:Nat):Prop:=
 match o.after.toList.find? (fun e=>Region.binds .any e && ((ops[e.on]?).bind (·.dst)) == some t) with
 | some e=>if e.on ∈ C then a.tmps[t]?=some (vals e.on) else a.tmps[t]?=some (T.getD e.on undef)
 | none=>a.tmps[t]?=a0.tmps[t]?
end
theorem fK {o:Oper} {a:Act} {w w2:World} {x:Value} {K:Value→World→Prop} (h:(execOp a.eval o).run P w=.ok (.value x) w2) (hK:K x w2):o.wp P a w (fun a' w'=>∃ v,a'=a.put o.dst v∧K v w') Q:=by
 unfold Oper.wp;rw [h];exact ⟨x,rfl,hK⟩
theorem rU {o:Oper} {a:Act} {w:World} {ob:Obj} {x:Value} {K:Value→World→Prop} (h:(execOp a.eval o).run P w=.ok (.value x) (w.alloc ob)) (hK:K x (w.alloc ob)):o.wp P a w (fun a' w'=>∃ v,a'=a.put o.dst v∧K v w') Q:=fK h hK
theorem fV {o:Oper} {a:Act} {w:World} {f:FuncId} {args:Array Value} {K:Value→World→Prop} (h:(execOp a.eval o).run P w=.ok (.enter f args) w) (hc:Calls P f args w fun e w'=>∃ v,e=.returned v∧K v w'):o.wp P a w (fun a' w'=>∃ v,a'=a.put o.dst v∧K v w') Q:=by
 unfold Oper.wp;rw [h];refine Calls.mono hc ?_;rintro e w' ⟨v,rfl,h1⟩;exact ⟨v,rfl,h1⟩
end Rg
namespace Rg
variable {P:Program} {Q:Exit→Act→World→Prop}
section
variable (P) (Q) (ops:Array Oper) (a0:Act) (T:List Value) (J:(Nat→Bool)→(Nat→Value)→World→Prop) (C:List Nat)
def qW (k:Nat) (o:Oper):Prop:=
 ∀ (a:Act) (w:World) (l:Nat→Bool) (vals:Nat→Value),J l vals w→l k=false→(∀ c,jg ops k c=true→l c=false)→(∀ c,jg ops c k=true→l c=true)→(∀ c d,jg ops c d=true→l d=true→l c=true)→(∀ t ∈ o.looksAt ops,oL ops a0 T C o a vals t)→Region.wanted o (yielded ops a.tmps)=true∧
  if k ∈ C then o.wp P a w (fun a' w'=>∃ v,a'=a.put o.dst v∧J (upd l k) (j9 vals k v) w') Q else (execOp a.eval o).run P w=.ok (.value (T.getD k undef)) w
def oO:List Oper→Nat→Prop
 | [],_=>True
 | o :: os,k=>qW P Q ops a0 T J C k o∧oO os (k+1)
def uy (l:Nat→Bool) (vals:Nat→Value) (w:World):Prop:=
 J l vals w∧∀ i,i ∉ C→l i=true→vals i=T.getD i undef
end
theorem rp {ops:Array Oper} {a0:Act} {T:List Value} {J:(Nat→Bool)→(Nat→Value)→World→Prop} {C:List Nat} (hJ:∀ l l' v v' w,(∀ i ∈ C,l i=l' i∧v i=v' i)→J l v w→J l' v' w) :
  ∀ (os:List Oper) (k:Nat),(∀ i,os[i]?=ops[k+i]?)→oO P Q ops a0 T J C os k→jU P Q .any ops (uy T J C) a0 os k
 | [],_,_,_=>trivial
 | o :: os,k,hos,h=>by
  refine ⟨fun a w l vals hI hl hc FB hr=>?_,rp hJ os (k+1) (fun i=>by rw [show k+1+i=k+(i+1) by omega,←hos (i+1)];rfl) h.2⟩;obtain ⟨hB,hv⟩:=hI;have ho:ops[k]?=some o:=(hos 0).symm
  have hQ:∀ t ∈ o.looksAt ops,oL ops a0 T C o a vals t:=fun t ht=>by
   have:=hr t ht;unfold rd at this;unfold oL
   split
   ·rename_i e he
    rw [he] at this;have h2:=List.find?_some he;rw [Bool.and_eq_true] at h2;replace this:a.tmps[t]?=some (vals e.on):=this
    split
    ·exact this
    rename_i n1
    rw [this,hv _ n1 (FB e (Array.mem_toList_iff.1 (List.mem_of_find?_eq_some he)) h2.1)]
   rename_i he
   rw [he] at this;exact this
  have hko:∀ j,j≠k→upd l k j=l j:=fun j hj=>if_neg hj
  have h1:=h.1;unfold qW at h1
  have rest:∀ v,(k ∉ C→v=T.getD k undef)→∀ i,i ∉ C→upd l k i=true→j9 vals k v i=T.getD i undef:=fun v hvk i n1 hi=>by
   by_cases hik:i=k
   ·subst hik
    have:j9 vals i v i=v:=if_pos rfl;rw [this];exact hvk n1
   rw [hko i hik] at hi;have:j9 vals k v i=vals i:=if_neg hik;rw [this];exact hv i n1 hi
  have hup:∀ c,jg ops k c=true→l c=false:=fun c he=>by
   cases q:l c
   ·rfl
   rw [ir hc he q] at hl;cases hl
  obtain ⟨hw,h1⟩:=h1 a w l vals hB hl hup (fun c he=>rK ho FB he) (fun c d he hd=>ir hc he hd) hQ;unfold qc;rw [if_pos hw]
  by_cases e3:k ∈ C
  ·rw [if_pos e3] at h1
   refine Oper.wp_mono ?_ h1;rintro a' w' ⟨v,e,h2⟩;exact ⟨v,e,h2,rest v (fun h=>absurd e3 h)⟩
  rw [if_neg e3] at h1;unfold Oper.wp;rw [h1];refine ⟨_,rfl,hJ l _ vals _ _ (fun i hi=>?_) hB,rest _ (fun _=>rfl)⟩
  have:i≠k:=fun e=>e3 (by rw [←e];exact hi)
  exact ⟨(hko i this).symm,(if_neg this).symm⟩
theorem wG {id:Nat} {ops:Array Oper} {a0:Act} {w:World} (J:(Nat→Bool)→(Nat→Value)→World→Prop) (C:List Nat) (T:List Value)
  (hm:P.follows .mixedOrders=true) (hok:eg .any ops a0.tmps.size=true) (hcl:∀ c ∈ C,c<ops.size) (hJ:∀ l l' v v' w,(∀ i ∈ C,l i=l' i∧v i=v' i)→J l v w→J l' v' w)
  (h0:∀ vals,J (fun _=>false) vals { w with drawn:=w.drawn+1 })
  (hR:oO P Q ops a0 T J C ops.toList 0)
  (hF:∀ (vals:Nat→Value) (w':World),J (fun _=>true) vals w'→(∀ i,i<ops.size→i ∉ C→vals i=T.getD i undef)→Q .normal (fill (fun _=>true) vals ops.toList 0 a0) w'):(Code.region id ops true).wp P Q a0 w:=by
 refine tZ (uy T J C) hm hok (fun vals=>⟨h0 vals,(fun _ _ h=>absurd h (by simp))⟩) (rp hJ ops.toList 0 (fun i=>by rw [Nat.zero_add];exact Array.getElem?_toList) hR) ?_;intro l vals w' hl hI;obtain ⟨h1,h2⟩:=hI;exact hF vals w' (hJ l _ vals vals w' (fun i hi=>⟨hl i (hcl i hi),rfl⟩) h1) (fun i hi n1=>h2 i n1 (hl i hi))
end Rg
namespace Rg
variable {P:Program} {Q:Exit→Act→World→Prop}
section
variable (P) (Q) (ops:Array Oper) (a0:Act) (T:List Value) (Base:(Nat→Bool)→World→Prop) (F:Nat→Value→World→Prop) (Rel:World→World→Prop) (C:List Nat)
def aS (k:Nat) (o:Oper):Prop:=
 ∀ (a:Act) (w:World) (l:Nat→Bool) (vals:Nat→Value),Base l w→(∀ i ∈ C,l i=true→F i (vals i) w)→l k=false→(∀ c,jg ops k c=true→l c=false)→(∀ c,jg ops c k=true→l c=true)→(∀ c d,jg ops c d=true→l d=true→l c=true)→(∀ t ∈ o.looksAt ops,oL ops a0 T C o a vals t)→Region.wanted o (yielded ops a.tmps)=true∧
  if k ∈ C then o.wp P a w (fun a' w'=>∃ v,a'=a.put o.dst v∧Base (upd l k) w'∧F k v w'∧Rel w w') Q else (execOp a.eval o).run P w=.ok (.value (T.getD k undef)) w
def qY:List Oper→Nat→Prop
 | [],_=>True
 | o :: os,k=>aS P Q ops a0 T Base F Rel C k o∧qY os (k+1)
end
theorem pB {ops:Array Oper} {a0:Act} {T:List Value} {Base:(Nat→Bool)→World→Prop} {F:Nat→Value→World→Prop} {Rel:World→World→Prop} {C:List Nat} (hF:∀ i u w w',Rel w w'→F i u w→F i u w') :
  ∀ (os:List Oper) (k:Nat),qY P Q ops a0 T Base F Rel C os k→oO P Q ops a0 T (fun l vals w=>Base l w∧∀ i ∈ C,l i=true→F i (vals i) w) C os k
 | [],_,_=>trivial
 | o :: os,k,h=>by
  refine ⟨fun a w l vals hJ hl hu hd hc hr=>?_,pB hF os (k+1) h.2⟩;have h1:=h.1;unfold aS at h1;obtain ⟨hw,h1⟩:=h1 a w l vals hJ.1 hJ.2 hl hu hd hc hr;refine ⟨hw,?_⟩
  by_cases hk:k ∈ C
  ·rw [if_pos hk] at h1 ⊢
   refine Oper.wp_mono ?_ h1;rintro a' w' ⟨v,e,h2,h3,h4⟩;refine ⟨v,e,h2,fun i hi hli=>?_⟩
   by_cases hik:i=k
   ·subst hik
    have:j9 vals i v i=v:=if_pos rfl;rw [this];exact h3
   have e1:upd l k i=l i:=if_neg hik;have e2:j9 vals k v i=vals i:=if_neg hik;rw [e1] at hli;rw [e2];exact hF i _ w w' h4 (hJ.2 i hi hli)
  rw [if_neg hk] at h1 ⊢;exact h1
theorem eB {id:Nat} {ops:Array Oper} {a0:Act} {w:World} (Base:(Nat→Bool)→World→Prop) (F:Nat→Value→World→Prop) (Rel:World→World→Prop) (C:List Nat) (T:List Value)
  (hm:P.follows .mixedOrders=true) (hok:eg .any ops a0.tmps.size=true) (hcl:∀ c ∈ C,c<ops.size) (hB:∀ l l' w,(∀ i ∈ C,l i=l' i)→Base l w→Base l' w) (hF:∀ i u w w',Rel w w'→F i u w→F i u w')
  (h0:Base (fun _=>false) { w with drawn:=w.drawn+1 })
  (hR:qY P Q ops a0 T Base F Rel C ops.toList 0)
  (hQ:∀ (vals:Nat→Value) (w':World),Base (fun _=>true) w'→(∀ i ∈ C,F i (vals i) w')→(∀ i,i<ops.size→i ∉ C→vals i=T.getD i undef)→Q .normal (fill (fun _=>true) vals ops.toList 0 a0) w'):(Code.region id ops true).wp P Q a0 w:=by
 refine wG (fun l vals w=>Base l w∧∀ i ∈ C,l i=true→F i (vals i) w) C T hm hok hcl (fun l l' v v' w h hJ=>⟨hB l l' w (fun i hi=>(h i hi).1) hJ.1,fun i hi hl=>?_⟩) (fun vals=>⟨h0,fun i _ h=>absurd h (by simp)⟩) (pB hF _ _ hR) (fun vals w' hJ hv=>hQ vals w' hJ.1 (fun i hi=>hJ.2 i hi rfl) hv);have:=h i hi;rw [←this.2];exact hJ.2 i hi (this.1.trans hl)
def yL:List (Nat × Nat)→(Nat→Bool)→Nat
 | [],_=>0
 | p :: C,l=>(bif l p.1 then p.2 else 0)+yL C l
theorem di {C:List (Nat × Nat)} {l l':Nat→Bool} (h:∀ p ∈ C,l p.1=l' p.1):yL C l=yL C l':=by
 induction C with
 | nil=>rfl
 | cons p C ih=>
 unfold yL;rw [h p List.mem_cons_self,ih fun q hq=>h q (List.mem_cons_of_mem _ hq)]
theorem bC {C:List (Nat × Nat)} {l:Nat→Bool} {k:Nat} (h:∀ p ∈ C,p.1≠k):yL C (upd l k)=yL C l:=
 di fun p hp=>if_neg (h p hp)
theorem ez:∀ (C:List (Nat × Nat)) (l:Nat→Bool),yL C l≤yL C fun _=>true
 | [],_=>wL _
 | p :: C,l=>by
  have:=ez C l;unfold yL
  cases l p.1 <;> simp <;> omega
theorem fa {C:List (Nat × Nat)} {l:Nat→Bool} {k c:Nat} (h:∀ p ∈ C,p.1=k→p.2=c) (hc:(C.filter fun p=>p.1 == k).length=1) (hl:l k=false):yL C (upd l k)=yL C l+c:=by
 induction C with
 | nil=>cases hc
 | cons p C ih=>
 unfold yL
 by_cases hp:p.1=k
 ·have e1:upd l k p.1=true:=by rw [hp];exact if_pos rfl
  rw [e1,hp,hl,h p List.mem_cons_self hp];rw [List.filter_cons,if_pos (by simpa using hp),List.length_cons] at hc
  have hn:∀ q ∈ C,q.1≠k:=fun q hq he=>by
   have:q ∈ C.filter fun p=>p.1 == k:=List.mem_filter.2 ⟨hq,by simpa using he⟩
   have:0<(C.filter fun p=>p.1 == k).length:=List.length_pos_of_mem this;omega
  rw [bC hn];simp only [cond_true,cond_false];omega
 have e1:upd l k p.1=l p.1:=if_neg hp;rw [e1];rw [List.filter_cons,if_neg (by simpa using hp)] at hc;rw [ih (fun q hq=>h q (List.mem_cons_of_mem _ hq)) hc];omega
end Rg
end
section
open Go.RowKit
def DL (X:List Nat) (W W':World):Prop:=∃ r ∈ X,W.grownBy W' (some r)
def iz (X:List Nat) (m:Nat) (u:Value) (W:World):Prop:=
 ∃ (b:Nat) (l:List Int),u=.slice (some ⟨b,0,none⟩) m m∧l.length=m∧b ∉ X∧∀ (j:Nat) (x:Int),l[j]?=some x→W.cell? ⟨b,j,none⟩=some (.int .i64 x)
def pV (u:Value):Prop:=∃ x:Int,u=.int .i64 x
theorem iz.keep {X:List Nat} {m:Nat} {u:Value} {W W':World} (h:iz X m u W) (hR:DL X W W'):iz X m u W':=by
 obtain ⟨b,l,e,hl,h1,hc⟩:=h;obtain ⟨r,hr,hg⟩:=hR;exact ⟨b,l,e,hl,h1,fun j x hj=>Gr.eC hg (hc j x hj) fun h=>h1 (h ▸ hr)⟩
theorem iz.new {X:List Nat} (W:World) (T:TypeId) (l:List Int) {m:Nat} (hm:l.length=m) (h1:∀ x ∈ X,x<W.heap.size):iz X m (.slice (some ⟨W.heap.size,0,none⟩) m m) (W.alloc (.cells (l.map (Value.int .i64)).toArray T)):=
 ⟨W.heap.size,l,rfl,hm,fun h=>by have:=h1 _ h;omega,bT W T l⟩
theorem lr {X:List Nat} {g B:Nat} {v u:Value} {n K m:Nat} {w:World} (h:cN w g B v n K) (hX:g ∈ X) (hk:K≤900000000) (h1:1≤m) (h2:m≤60000) (hl:iz X m u w) :
  ∃ b,u=.slice (some ⟨b,0,none⟩) m m∧Calls Tryz.prog 100 #[.pointer (some ⟨g,0,none⟩),.slice (some ⟨b,0,none⟩) m m] w fun e w'=>∃ u',e=.returned u'∧pV u'∧cN w' g B v n (K+2)∧w.grownBy w' (some g):=by
 obtain ⟨b,l,e,hlen,n1,hc⟩:=hl;refine ⟨b,e,(cI g B v n K l b m w h hk hlen h1 h2 (fun h=>n1 (h ▸ hX)) hc).mono ?_⟩;rintro e w' ⟨x,rfl,-,h1,h2⟩;exact ⟨_,rfl,⟨x,rfl⟩,h1,h2⟩
theorem mR (W:World) (o:Obj) (r:Option Nat):W.grownBy (W.alloc o) r:=bf ((wK W.heap.size W).alloc (wL _) o) r
theorem DL.lay {X:List Nat} {r:Nat} (h:r ∈ X) (W:World) (o:Obj):DL X W (W.alloc o):=⟨r,h,mR W o _⟩
theorem DL.self {X:List Nat} {r:Nat} (h:r ∈ X) (W:World):DL X W W:=⟨r,h,ce W _⟩
theorem St.drew {w W:World} {g B n K:Nat} {v:Value} (h:St w W g B v n K):St w { W with drawn:=W.drawn+1 } g B v n K:=h.keep ((wK W.heap.size W).drew)
theorem qG (X Y E:Int) (w:World) (h1:-4000000000000000000≤Y) (h2:Y≤4000000000000000000) :
  Calls Tryz.prog 93 #[.agg #[.int .i64 X,.int .i64 Y,.int .i64 E]] w fun e w'=>e=.returned (.agg #[.int .i64 X,.int .i64 (-Y),.int .i64 E])∧Below w.heap.size w w':=by
 go_enter Tryz.func93,Tryz.ntmps93
 go_wp2;exact bodyPost_ret (v:=.agg #[.int .i64 X,.int .i64 (-Y),.int .i64 E]) (by simp [results,Tryz.results93,go_sem, *]) rfl (⟨rfl,(by repeat (first | exact wK _ _ | refine aV ?_ _ | refine aW ?_ (by assumption) | refine Below.drew ?_ | refine wJ ?_ (by first | exact wL _ | exact Nat.le_add_right _ _ | (simp <;> omega)) _ | refine aM ?_ _))⟩)
namespace M
abbrev Ax:=Int × Int × Int
noncomputable def z6 (a X Y E:Int):Nat→Option Ax
 | 0=>some (0,0,0)
 | n+1=>(z6 a X Y E n).bind fun p=>if dq a p.1 p.2.1 p.2.2 X Y E=true then some (fQ a p.1 p.2.1 p.2.2 X Y E,fR a p.1 p.2.1 p.2.2 X Y E,fP a p.1 p.2.1 p.2.2 X Y E) else none
def pX (r:Option Ax):Int:=(r.getD (0,0,0)).1
def pY (r:Option Ax):Int:=(r.getD (0,0,0)).2.1
def pE (r:Option Ax):Int:=(r.getD (0,0,0)).2.2
theorem qH (a b:Int):bG a b 0 0 0=true:=by
 unfold bG;simp
theorem ju {a b X Y E:Int} (hg:good a b=true) (hp:bG a b X Y E=true):∀ n p,z6 a X Y E n=some p→bG a b p.1 p.2.1 p.2.2=true
 | 0,p,h=>by
  cases h
  exact qH a b
 | n+1,p,h=>by
  unfold z6 at h
  cases hq:z6 a X Y E n with
  | none=>rw [hq] at h;cases h
  | some q=>
  rw [hq] at h;have hq2:=ju hg hp n q hq;simp only [Option.bind_some] at h
  split at h
  ·cases h
   exact uJ (ag hg) hq2 hp
  cases h
theorem iE {a X Y E:Int} {n:Nat} {p:Ax} (h:z6 a X Y E n=some p):z6 a X Y E (n+1)=if dq a p.1 p.2.1 p.2.2 X Y E=true then some (fQ a p.1 p.2.1 p.2.2 X Y E,fR a p.1 p.2.1 p.2.2 X Y E,fP a p.1 p.2.1 p.2.2 X Y E) else none:=by
 conv=>lhs;unfold z6
 rw [h];rfl
theorem fq {a X Y E:Int} {n:Nat} (h:z6 a X Y E n=none):∀ k,n≤k→z6 a X Y E k=none
 | 0,hk=>by
  obtain rfl:n=0:=by omega
  exact h
 | k+1,hk=>by
  by_cases e:n=k+1
  ·rw [←e];exact h
  conv=>lhs;unfold z6
  rw [fq h k (by omega)];rfl
def EO (n Y:Int):Int:=if n<0 then -Y else Y
noncomputable def gT (a X Y E n:Int):Option Ax:=z6 a X (EO n Y) E n.natAbs
end M
theorem iZ (a b X Y E n:Int) (w:World) (hg:M.good a b=true) (hp:M.bG a b X Y E=true) (hn1:-1000000≤n) (hn2:n≤1000000) :
  Calls Tryz.prog 104 #[.agg #[.int .i64 a,.int .i64 b],.agg #[.int .i64 X,.int .i64 Y,.int .i64 E],.int .i64 n] w fun e w'=>e=.returned (.tuple #[.agg #[.int .i64 (M.pX (M.gT a X Y E n)),.int .i64 (M.pY (M.gT a X Y E n)),.int .i64 (M.pE (M.gT a X Y E n))],.bool (M.gT a X Y E n).isSome])∧Below w.heap.size w w':=by
 obtain ⟨r1,r2,r3,r4,y1,y2⟩:=M.be (M.ag hg) hp
 have PO:=fun W=>qG X Y E W (by omega) (by omega)
 have hm:=M.mf hp
 obtain ⟨k,hk⟩:∃ k:Nat,k=n.natAbs:=⟨_,rfl⟩
 obtain ⟨Z,hZ⟩:∃ Z,Z=M.EO n Y:=⟨_,rfl⟩
 have hpz:M.bG a b X Z E=true:=by
  rw [hZ];unfold M.EO
  split
  ·exact hm
  exact hp
 have PA:=fun (p:M.Ax) (h:M.bG a b p.1 p.2.1 p.2.2=true) W=>tQ a b p.1 p.2.1 p.2.2 X Z E W hg h hpz
 have HT:=M.ju hg hpz
 have hr:M.gT a X Y E n=M.z6 a X Z E k:=by unfold M.gT;rw [←hZ,←hk]
 rw [hr]
 obtain ⟨res,hres⟩:∃ r,M.z6 a X Z E k=r:=⟨_,rfl⟩
 rw [hres]
 have hkb:k≤1000000:=by omega
 clear r1 r2 r3 r4 y1 y2 hm hg hp hpz hr;replace PA:=wH PA;replace HT:=wH HT;replace hres:=wH hres;obtain ⟨wc,hw3,C,Q,R,B⟩:=eJ w #[.int .i64 a,.int .i64 b] 25 #[.int .i64 X,.int .i64 Y,.int .i64 E] 27 #[.int .i64 0,.int .i64 0,.int .i64 0] 27;have ⟨k0,k1,_,_,_⟩:=C.box;have ⟨q0,q1,q2,m0,m1,m2⟩:=Q.bF
 by_cases hneg:n<0
 ·have hzy:-Y=Z:=by rw [hZ];unfold M.EO;exact (if_pos hneg).symm
  rw [hzy] at PO;replace PO:=wH PO;clear hzy
  have hkn:(k:Int)=-n:=by omega
  clear hZ hk;go_enter Tryz.func104,Tryz.ntmps104
  go_wp2_with fail
  (with_reducible refine (PO.out _).mono ?_);rintro e w4 ⟨rfl,hb4⟩
  replace B:=d_ B hb4;replace C:=C.keep hb4;replace Q:=Q.keep hb4;replace R:=R.keep hb4;clear k0 k1 q0 q1 q2 m0 m1 m2 hb4;have ⟨q0,q1,q2,m0,m1,m2⟩:=Q.bF;replace B:Below w.heap.size w (((w4.setCell ⟨w.heap.size+1,0,none⟩ (.int .i64 X)).setCell ⟨w.heap.size+1,1,none⟩ (.int .i64 Z)).setCell ⟨w.heap.size+1,2,none⟩ (.int .i64 E)):=wJ (wJ (wJ B (by dsimp only;omega) _) (by dsimp only;omega) _) (by dsimp only;omega) _;replace C:=((C.other (k:=w.heap.size+1) (i:=0) (by omega) (.int .i64 X)).other (k:=w.heap.size+1) (i:=1) (by omega) (.int .i64 Z)).other (k:=w.heap.size+1) (i:=2) (by omega) (.int .i64 E);replace R:=((R.other (k:=w.heap.size+1) (i:=0) (by omega) (.int .i64 X)).other (k:=w.heap.size+1) (i:=1) (by omega) (.int .i64 Z)).other (k:=w.heap.size+1) (i:=2) (by omega) (.int .i64 E);replace Q:=Q.qM (.int .i64 X) (.int .i64 Z) (.int .i64 E)
  go_upto_region 4 with fail
  clear q0 q1 q2 m0 m1 m2;generalize (((w4.setCell ⟨w.heap.size+1,0,none⟩ (.int .i64 X)).setCell ⟨w.heap.size+1,1,none⟩ (.int .i64 Z)).setCell ⟨w.heap.size+1,2,none⟩ (.int .i64 E))=wd at *;have O:=aH.new wd #[.int .i64 0,.int .i64 0,.int .i64 0] 27;have IQ:=B.size;have Mf:=Q.lt;have hRl:=R.lt;have hCl:=C.lt;replace B:=B.alloc IQ (.cells #[.int .i64 0,.int .i64 0,.int .i64 0] 27);replace C:=C.alloc (.cells #[.int .i64 0,.int .i64 0,.int .i64 0] 27);replace Q:=Q.alloc (.cells #[.int .i64 0,.int .i64 0,.int .i64 0] 27);replace R:=R.alloc (.cells #[.int .i64 0,.int .i64 0,.int .i64 0] 27);go_wp2;generalize wd.heap.size=ko at *
  go_loopw [2] (fun vi wq=>∃ (j:Nat) (p:M.Ax),j≤k∧vi=.int .i64 ((k:Int) - j)∧Hid (M.z6 a X Z E j=some p)∧Below w.heap.size w wq∧aH wq ko 27 #[.int .i64 p.1,.int .i64 p.2.1,.int .i64 p.2.2]∧aH wq w.heap.size 25 #[.int .i64 a,.int .i64 b]∧aH wq (w.heap.size+1) 27 #[.int .i64 X,.int .i64 Z,.int .i64 E]∧aH wq (w.heap.size+1+1) 27 #[.int .i64 0,.int .i64 0,.int .i64 0]) (fun vi _=>(intOf vi).toNat)
  case atStart=>exact ⟨0,(0,0,0),by omega,congrArg (Value.int .i64) (by omega),wH rfl,B,O,C,Q,R⟩
  case round=>
  clear B O C Q R;obtain ⟨j,⟨px,py,pe⟩,hj,rfl,ht,B,O,C,Q,R⟩:=hrel;have Dn:=HT.out j _ ht.out;have hnx:=M.iE ht.out;replace PA:=PA.out _ Dn;clear Dn
  dsimp only at hnx PA O
  by_cases hlt:j<k
  ·have hgt:0<(k:Int) - j:=by omega
   generalize M.dq a px py pe X Z E=o3,M.fP a px py pe X Z E=E3,M.fR a px py pe X Z E=Y3,M.fQ a px py pe X Z E=X3 at *;replace PA:=wH PA;replace hnx:=wH hnx;have ⟨k0,k1,_,_,_⟩:=C.box;have ⟨q0,q1,q2⟩:=Q.aK;have ⟨o0,o1,o2⟩:=O.aK
   go_wp2_with fail
   (with_reducible refine (PA.out _).mono ?_);rintro e wk ⟨rfl,y9⟩
   have Ni:=(d_ B y9).size;have B0:=d_ B y9;replace B:=B0.alloc Ni (.cells #[.int .i64 X3,.int .i64 Y3,.int .i64 E3] 27);replace O:=(O.keep y9).alloc (.cells #[.int .i64 X3,.int .i64 Y3,.int .i64 E3] 27);replace C:=(C.keep y9).alloc (.cells #[.int .i64 X3,.int .i64 Y3,.int .i64 E3] 27);replace Q:=(Q.keep y9).alloc (.cells #[.int .i64 X3,.int .i64 Y3,.int .i64 E3] 27);replace R:=(R.keep y9).alloc (.cells #[.int .i64 X3,.int .i64 Y3,.int .i64 E3] 27);have S:=aH.new wk #[.int .i64 X3,.int .i64 Y3,.int .i64 E3] 27;clear k0 k1 q0 q1 q2 o0 o1 o2 y9
   cases o3 with
   | false=>
    have hno:res=none:=hres.out.symm.trans (M.fq (hnx.out.trans (if_neg (by decide))) k (by omega));subst hno;have ⟨x0,x1,x2,z0,z1,z2⟩:=R.bF;go_wp2;exact bodyPost_ret (v:=.tuple #[.agg #[.int .i64 0,.int .i64 0,.int .i64 0],.bool false]) (by simp [results,Tryz.results104,go_sem, *]) rfl (⟨rfl,wJ (wJ (wJ B (by dsimp only;omega) _) (by dsimp only;omega) _) (by dsimp only;omega) _⟩)
   | true=>
   replace hnx:=wH (hnx.out.trans (if_pos rfl));have ⟨x0,x1,x2,z0,z1,z2⟩:=O.bF;have ⟨s0,s1,s2⟩:=S.aK;go_wp2
   go_roundw
   case rel=>exact ⟨j+1,(X3,Y3,E3),by omega,by go_num,hnx,wJ (wJ (wJ B (by dsimp only;omega) _) (by dsimp only;omega) _) (by dsimp only;omega) _,O.qM _ _ _,((C.other (by omega) _).other (by omega) _).other (by omega) _,((Q.other (by omega) _).other (by omega) _).other (by omega) _,((R.other (by omega) _).other (by omega) _).other (by omega) _⟩
   case measure=>simp [intOf];omega
  obtain rfl:j=k:=by omega
  obtain rfl:res=some (px,py,pe):=hres.out.symm.trans ht.out;have ⟨x0,x1,x2,z0,z1,z2⟩:=R.bF;have ⟨o0,o1,o2⟩:=O.aK
  have hz:¬ 0<(j:Int) - j:=by omega
  go_wp2;exact bodyPost_ret (v:=.tuple #[.agg #[.int .i64 px,.int .i64 py,.int .i64 pe],.bool true]) (by simp [results,Tryz.results104,go_sem, *]) rfl (⟨rfl,wJ (wJ (wJ B (by dsimp only;omega) _) (by dsimp only;omega) _) (by dsimp only;omega) _⟩)
 obtain rfl:Z=Y:=by rw [hZ];unfold M.EO;exact if_neg hneg
 have hkn:(k:Int)=n:=by omega
 clear hZ hk PO;go_enter Tryz.func104,Tryz.ntmps104
 go_upto_region 4 with fail
 clear k0 k1 q0 q1 q2 m0 m1 m2;have O:=aH.new wc #[.int .i64 0,.int .i64 0,.int .i64 0] 27;have IQ:=B.size;have Mf:=Q.lt;have hRl:=R.lt;have hCl:=C.lt;replace B:=B.alloc IQ (.cells #[.int .i64 0,.int .i64 0,.int .i64 0] 27);replace C:=C.alloc (.cells #[.int .i64 0,.int .i64 0,.int .i64 0] 27);replace Q:=Q.alloc (.cells #[.int .i64 0,.int .i64 0,.int .i64 0] 27);replace R:=R.alloc (.cells #[.int .i64 0,.int .i64 0,.int .i64 0] 27);go_wp2;generalize wc.heap.size=ko at *
 go_loopw [2] (fun vi wq=>∃ (j:Nat) (p:M.Ax),j≤k∧vi=.int .i64 ((k:Int) - j)∧Hid (M.z6 a X Z E j=some p)∧Below w.heap.size w wq∧aH wq ko 27 #[.int .i64 p.1,.int .i64 p.2.1,.int .i64 p.2.2]∧aH wq w.heap.size 25 #[.int .i64 a,.int .i64 b]∧aH wq (w.heap.size+1) 27 #[.int .i64 X,.int .i64 Z,.int .i64 E]∧aH wq (w.heap.size+1+1) 27 #[.int .i64 0,.int .i64 0,.int .i64 0]) (fun vi _=>(intOf vi).toNat)
 case atStart=>exact ⟨0,(0,0,0),by omega,congrArg (Value.int .i64) (by omega),wH rfl,B,O,C,Q,R⟩
 case round=>
 clear B O C Q R;obtain ⟨j,⟨px,py,pe⟩,hj,rfl,ht,B,O,C,Q,R⟩:=hrel;have Dn:=HT.out j _ ht.out;have hnx:=M.iE ht.out;replace PA:=PA.out _ Dn;clear Dn
 dsimp only at hnx PA O
 by_cases hlt:j<k
 ·have hgt:0<(k:Int) - j:=by omega
  generalize M.dq a px py pe X Z E=o3,M.fP a px py pe X Z E=E3,M.fR a px py pe X Z E=Y3,M.fQ a px py pe X Z E=X3 at *;replace PA:=wH PA;replace hnx:=wH hnx;have ⟨k0,k1,_,_,_⟩:=C.box;have ⟨q0,q1,q2⟩:=Q.aK;have ⟨o0,o1,o2⟩:=O.aK
  go_wp2_with fail
  (with_reducible refine (PA.out _).mono ?_);rintro e wk ⟨rfl,y9⟩
  have Ni:=(d_ B y9).size;have B0:=d_ B y9;replace B:=B0.alloc Ni (.cells #[.int .i64 X3,.int .i64 Y3,.int .i64 E3] 27);replace O:=(O.keep y9).alloc (.cells #[.int .i64 X3,.int .i64 Y3,.int .i64 E3] 27);replace C:=(C.keep y9).alloc (.cells #[.int .i64 X3,.int .i64 Y3,.int .i64 E3] 27);replace Q:=(Q.keep y9).alloc (.cells #[.int .i64 X3,.int .i64 Y3,.int .i64 E3] 27);replace R:=(R.keep y9).alloc (.cells #[.int .i64 X3,.int .i64 Y3,.int .i64 E3] 27);have S:=aH.new wk #[.int .i64 X3,.int .i64 Y3,.int .i64 E3] 27;clear k0 k1 q0 q1 q2 o0 o1 o2 y9
  cases o3 with
  | false=>
   have hno:res=none:=hres.out.symm.trans (M.fq (hnx.out.trans (if_neg (by decide))) k (by omega));subst hno;have ⟨x0,x1,x2,z0,z1,z2⟩:=R.bF;go_wp2;exact bodyPost_ret (v:=.tuple #[.agg #[.int .i64 0,.int .i64 0,.int .i64 0],.bool false]) (by simp [results,Tryz.results104,go_sem, *]) rfl (⟨rfl,wJ (wJ (wJ B (by dsimp only;omega) _) (by dsimp only;omega) _) (by dsimp only;omega) _⟩)
  | true=>
  replace hnx:=wH (hnx.out.trans (if_pos rfl));have ⟨x0,x1,x2,z0,z1,z2⟩:=O.bF;have ⟨s0,s1,s2⟩:=S.aK;go_wp2
  go_roundw
  case rel=>exact ⟨j+1,(X3,Y3,E3),by omega,by go_num,hnx,wJ (wJ (wJ B (by dsimp only;omega) _) (by dsimp only;omega) _) (by dsimp only;omega) _,O.qM _ _ _,((C.other (by omega) _).other (by omega) _).other (by omega) _,((Q.other (by omega) _).other (by omega) _).other (by omega) _,((R.other (by omega) _).other (by omega) _).other (by omega) _⟩
  case measure=>simp [intOf];omega
 obtain rfl:j=k:=by omega
 obtain rfl:res=some (px,py,pe):=hres.out.symm.trans ht.out;have ⟨x0,x1,x2,z0,z1,z2⟩:=R.bF;have ⟨o0,o1,o2⟩:=O.aK
 have hz:¬ 0<(j:Int) - j:=by omega
 go_wp2;exact bodyPost_ret (v:=.tuple #[.agg #[.int .i64 px,.int .i64 py,.int .i64 pe],.bool true]) (by simp [results,Tryz.results104,go_sem, *]) rfl (⟨rfl,wJ (wJ (wJ B (by dsimp only;omega) _) (by dsimp only;omega) _) (by dsimp only;omega) _⟩)
namespace M
theorem mg {a b x y:Int} (h1:-10000≤x) (h2:x≤10000) (h:y*y=cv a b x 1):bG a b x y 1=true:=by
 unfold bG;rw [if_neg (by decide)];simp only [Bool.and_eq_true,beq_iff_eq,decide_eq_true_eq];exact ⟨⟨⟨cO.2 ⟨h1,h2⟩,rfl⟩,by unfold M.gcd;simp⟩,h⟩
theorem pH {n:Int} (h:0≤n) (h2:n≤4000000000000000000):0≤root n∧root n≤2000000000∧root n*root n≤n:=by
 obtain ⟨r0,r1,r2⟩:=gB h;refine ⟨r0,?_,r1⟩
 rcases Int.lt_or_le 2000000000 (root n) with q | q
 ·have:=Int.mul_le_mul (show 2000000001≤root n by omega) (show 2000000001≤root n by omega) (by decide) r0
  omega
 exact q
theorem uR {a b x:Int} (ha1:-1000≤a) (ha2:a≤1000) (hb1:-10000≤b) (hb2:b≤10000) (hx1:-200≤x) (hx2:x≤200):-9000000≤cv a b x 1∧cv a b x 1≤9000000:=by
 have e:cv a b x 1=x*x*x+a*x+b:=by unfold cv;grind
 have s1:=M.aL (x:=x) (y:=x) (m:=200) (n:=200) (by omega) (by omega) (by omega) (by omega);have s2:=M.aL (x:=x*x) (y:=x) (m:=40000) (n:=200) (by omega) (by omega) (by omega) (by omega);have s3:=M.aL (x:=a) (y:=x) (m:=1000) (n:=200) (by omega) (by omega) (by omega) (by omega);omega
end M
theorem nj (n:Int) (w:World) (h1:0≤n) (h2:n≤4000000000000000000) :
  Calls Tryz.prog 191 #[.int .i64 n] w fun e w'=>e=.returned (.bool (M.root n*M.root n == n))∧w=w':=by
 have PR:=wH fun W=>jh n W h1 h2
 obtain ⟨r0,r1,r2⟩:=M.pH h1 h2;generalize M.root n=r at *;have hs:=M.aL (x:=r) (y:=r) (m:=2000000000) (n:=2000000000) (by omega) (by omega) (by omega) (by omega);generalize hq:r*r=q at *;go_enter Tryz.func191,Tryz.ntmps191
 go_wp2_with (go_at_call 150;(refine (PR.out _).mono ?_);rintro e w' ⟨rfl,rfl⟩)
 go_ret;exact ⟨rfl,rfl⟩
def FW (w:World) (base:Nat) (A:Option Addr) (l:List M.Ax):Prop:=
 ∀ (k:Nat) (p:M.Ax),l[k]?=some p→∃ g,A=some ⟨g,0,none⟩∧base≤g∧w.cell? ⟨g,k*3,none⟩=some (.int .i64 p.1)∧w.cell? ⟨g,k*3+1,none⟩=some (.int .i64 p.2.1)∧w.cell? ⟨g,k*3+2,none⟩=some (.int .i64 p.2.2)
theorem FW.nil (w:World) (base:Nat):FW w base none []:=fun k p h=>by simp at h
theorem FW.below {w w':World} {base:Nat} {A:Option Addr} {l:List M.Ax} (h:FW w base A l) (hb:Below w.heap.size w w'):FW w' base A l:=fun k p hp=>by
 obtain ⟨g,h1,h2,h3,h4,h5⟩:=h k p hp;exact ⟨g,h1,h2,aE hb h3,aE hb h4,aE hb h5⟩
theorem tR (a b x:Int) (w:World) (hg:M.good a b=true) (hx1:-200≤x) (hx2:x≤200) :
  Calls Tryz.prog 160 #[.agg #[.int .i64 a,.int .i64 b],.int .i64 x,.int .i64 1] w fun e w'=>∃ (A:Option Addr) (l:List M.Ax) (cp:Nat),e=.returned (.slice A l.length cp)∧l.length≤2∧FW w' w.heap.size A l∧(∀ p ∈ l,M.bG a b p.1 p.2.1 p.2.2=true)∧Below w.heap.size w w':=by
 obtain ⟨ha1,ha2,hb1,hb2⟩:=M.an (M.ag hg)
 have PV:=fun W=>kU a b x 1 W ha1 ha2 hb1 hb2 (by omega) (by omega) (by omega) (by omega)
 obtain ⟨c1,c2⟩:=M.uR ha1 ha2 hb1 hb2 hx1 hx2
 have HO:=fun y (h:y*y=M.cv a b x 1)=>M.mg (a:=a) (b:=b) (x:=x) (y:=y) (by omega) (by omega) h
 replace HO:=wH HO;generalize M.cv a b x 1=c at *;replace PV:=wH PV;clear hg ha1 ha2 hb1 hb2;obtain ⟨wc,hw3,C,B⟩:=ix w #[.int .i64 a,.int .i64 b] 25;have ⟨k0,k1,_,_,_⟩:=C.box
 rcases Int.lt_or_le c 0 with hc | hc
 ·go_enter Tryz.func160,Tryz.ntmps160
  go_wp2_with (go_at_call 161;(with_reducible refine (PV.out _).mono ?_);rintro e w1 ⟨rfl,hb1⟩;replace B:=d_ B hb1)
  go_ret;exact ⟨none,[],0,rfl,by simp,FW.nil _ _,by simp,B⟩
 have PS:=fun W=>nj c W hc (by omega)
 have PR:=fun W=>jh c W hc (by omega)
 obtain ⟨r0,r1,r2⟩:=M.pH hc (by omega);generalize M.root c=r at *
 have hn:¬ c<0:=by omega
 replace PR:=wH PR
 by_cases hs:r*r=c
 ·rw [show (r*r == c)=true from beq_iff_eq.2 hs] at PS
  replace PS:=wH PS
  by_cases h0:c=0
  ·have h1:=HO.out 0 (by omega)
   subst h0;clear HO hs r2 r1 r0 PR;go_enter Tryz.func160,Tryz.ntmps160
   go_wp2_with (first | (go_at_call 161;(with_reducible refine (PV.out _).mono ?_);rintro e w1 ⟨rfl,hb1⟩;replace B:=d_ B hb1) | (go_at_call 191;(with_reducible refine (PS.out _).mono ?_);rintro e w2 ⟨rfl,rfl⟩))
   go_ret
   exact ⟨_,[(x,0,1)],_,rfl,by simp,fun k p hp=>by
    have hk:k<1:=by simpa using (List.getElem?_eq_some_iff.1 hp).1
    obtain rfl:k=0:=by omega
    cases hp
    have V:=aH.new w1 #[.int .i64 x,.int .i64 0,.int .i64 1] 27
    exact ⟨w1.heap.size,rfl,B.size,V.cell 0,V.cell 1,V.cell 2⟩,by simp [h1],B.alloc B.size _⟩
  have h1:=HO.out r hs;have h2:=HO.out (-r) (by rw [Int.neg_mul_neg];exact hs);clear HO hs r2;replace h1:=wH h1;replace h2:=wH h2;go_enter Tryz.func160,Tryz.ntmps160
  go_wp2_with (first | (go_at_call 161;(with_reducible refine (PV.out _).mono ?_);rintro e w1 ⟨rfl,hb1⟩;replace B:=d_ B hb1) | (go_at_call 191;(with_reducible refine (PS.out _).mono ?_);rintro e w2 ⟨rfl,rfl⟩) | (go_at_call 150;(with_reducible refine (PR.out _).mono ?_);rintro e w2 ⟨rfl,rfl⟩))
  go_ret
  exact ⟨_,[(x,-r,1),(x,r,1)],_,rfl,by simp,fun k p hp=>by
   have hk:k<2:=by simpa using (List.getElem?_eq_some_iff.1 hp).1
   have hk2:k=0∨k=1:=by omega
   have V:=aH.new w1 #[.int .i64 x,.int .i64 (-r),.int .i64 1,.int .i64 x,.int .i64 r,.int .i64 1] 27
   rcases hk2 with rfl | rfl
   ·cases hp;exact ⟨w1.heap.size,rfl,B.size,V.cell 0,V.cell 1,V.cell 2⟩
   cases hp;exact ⟨w1.heap.size,rfl,B.size,V.cell 3,V.cell 4,V.cell 5⟩,by simp [h1.out,h2.out],B.alloc B.size _⟩
 rw [show (r*r == c)=false from beq_eq_false_iff_ne.2 hs] at PS;replace PS:=wH PS;clear HO;go_enter Tryz.func160,Tryz.ntmps160
 go_wp2_with (first | (go_at_call 161;(with_reducible refine (PV.out _).mono ?_);rintro e w1 ⟨rfl,hb1⟩;replace B:=d_ B hb1) | (go_at_call 191;(with_reducible refine (PS.out _).mono ?_);rintro e w2 ⟨rfl,rfl⟩))
 go_ret;exact ⟨none,[],0,rfl,by simp,FW.nil _ _,by simp,B⟩
end
end Go.Proofs.YtggekfbfechonaaGreat
