/-
  Joined texts: contracts and plain lemmas.
-/
import Derived.Test.YtggekfbfechonaaGreatY1
import Derived.Orders
import Derived.Deep.DeepCutAuto
import Derived.WalkKit
import Derived.Test.YtggekfbfechonaaGreatY4
set_option linter.unusedSimpArgs false
set_option linter.unusedVariables false
set_option maxRecDepth 100000
set_option maxHeartbeats 8000000
namespace Go.Proofs.YtggekfbfechonaaGreat
section
open Go
namespace Rg
variable {P:Program} {Q:Exit→Act→World→Prop} {md:Region.Mode}
def fill (l:Nat→Bool) (vals:Nat→Value):List Oper→Nat→Act→Act
 | [],_,a=>a
 | o :: os,k,a=>fill l vals os (k+1) (if l k then a.put o.dst (vals k) else a)
def sep (o x:Oper):Bool:=match o.dst with | some d=>x.dst != some d | none=>true
def apart:List Oper→Bool
 | []=>true
 | o :: os=>os.all (sep o) && apart os
theorem ay:(∀ (α:Type) (a:α) (l:List α) (n:Nat),(a :: l).take (n+1)=a :: l.take n)∧(∀ (α:Type) (l:List α),l.take 0=[])∧(∀ (α:Type) (a:α) (l:List α) (n:Nat),(a :: l).drop (n+1)=l.drop n)∧(∀ (α:Type) (l:List α),l.drop 0=l)∧(∀ (α:Type) [Decidable True] (a b:α),(if True then a else b)=a)∧(∀ (α:Type) (l:List α) (i:Nat) (a:α),l.toArray.setIfInBounds i a=(l.set i a).toArray)∧(∀ (α:Type) (x a:α) (l:List α),(x :: l).set 0 a=a :: l)∧(∀ (α:Type) (x a:α) (l:List α) (n:Nat),(x :: l).set (n+1) a=x :: l.set n a)∧∀ n:Nat,0+n=n:=
 ⟨fun _ _ _ _=>List.take_succ_cons,fun _ _=>List.take_zero,fun _ _ _ _=>List.drop_succ_cons,fun _ _=>List.drop_zero,fun _ _ _ _=>if_true ..,fun _ _ _ _=>List.setIfInBounds_toArray ..,fun _ _ _ _=>List.set_cons_zero,fun _ _ _ _ _=>List.set_cons_succ,Nat.zero_add⟩
theorem cE {l l':Nat→Bool} {v v':Nat→Value}:∀ (os:List Oper) (k:Nat) (a:Act),(∀ j,k≤j→j<k+os.length→l j=l' j)→(∀ j,k≤j→l j=true→v j=v' j)→fill l v os k a=fill l' v' os k a
 | [],_,_,_,_=>rfl
 | o :: os,k,a,h1,h2=>by
  unfold fill;rw [←h1 k (wL _) (by simp)]
  cases hl:l k
  ·simp only [Bool.false_eq_true,if_false]
   exact cE os (k+1) a (fun j hj hj2=>h1 j (by omega) (by simp;omega)) (fun j hj=>h2 j (by omega))
  simp only [if_true];rw [h2 k (wL _) hl];exact cE os (k+1) _ (fun j hj hj2=>h1 j (by omega) (by simp;omega)) (fun j hj=>h2 j (by omega))
theorem mL {l:Nat→Bool} {v:Nat→Value} {d:Option Tmp} {u:Value}:∀ (os:List Oper) (k:Nat) (a:Act),(∀ x ∈ os,∀ t,d=some t→x.dst≠some t)→(fill l v os k a).put d u=fill l v os k (a.put d u)
 | [],_,_,_=>rfl
 | o :: os,k,a,h=>by
  unfold fill;rw [mL os (k+1) _ (fun x hx=>h x (List.mem_cons_of_mem _ hx))]
  congr 1
  split
  ·exact (Act.put_comm a u (v k) (h o (List.mem_cons_self ..))).symm
  rfl
theorem gh {l:Nat→Bool} {v:Nat→Value} {u:Value}:∀ (os:List Oper) (k i:Nat) (o:Oper) (a:Act),apart os=true→os[i]?=some o→l (k+i)=false→
  (fill l v os k a).put o.dst u=fill (fun j=>if j=k+i then true else l j) (fun j=>if j=k+i then u else v j) os k a
 | [],_,_,_,_,_,h,_=>by simp at h
 | x :: os,k,0,o,a,ha,h,hl=>by
  simp only [List.getElem?_cons_zero,Option.some.injEq] at h;subst h;rw [apart,Bool.and_eq_true] at ha
  have hs:∀ y ∈ os,∀ t,x.dst=some t→y.dst≠some t:=fun y hy t ht=>by
   have:=List.all_eq_true.1 ha.1 y hy;rw [sep,ht] at this
   simpa using this
  unfold fill;rw [Nat.add_zero] at hl ⊢;rw [mL os (k+1) _ hs,if_neg (by simp [hl])]
  have e:(if (if k=k then true else l k)=true then a.put x.dst (if k=k then u else v k) else a)=a.put x.dst u:=by simp
  show _=fill _ _ os (k+1) (if (if k=k then true else l k)=true then a.put x.dst (if k=k then u else v k) else a)
  rw [e];exact cE os (k+1) _ (fun j hj _=>by rw [if_neg (by omega)]) (fun j hj _=>by rw [if_neg (by omega)])
 | x :: os,k,i+1,o,a,ha,h,hl=>by
  rw [apart,Bool.and_eq_true] at ha;rw [show k+(i+1)=k+1+i from by omega] at hl ⊢;unfold fill;rw [gh os (k+1) i o _ ha.2 (by simpa using h) hl]
  congr 1
  rw [if_neg (show ¬ k=k+1+i by omega),if_neg (show ¬ k=k+1+i by omega)]
theorem ro (a:Act) (d:Option Tmp) (v:Value):(a.put d v).tmps.size=a.tmps.size:=by
 cases d <;> simp [Act.put]
theorem tV {a:Act} {d:Option Tmp} {v:Value} {t:Nat} (h:d≠some t):(a.put d v).tmps[t]?=a.tmps[t]?:=by
 cases d with
 | none=>rfl
 | some d=>simp only [Act.put];rw [Array.getElem?_setIfInBounds_ne (by intro e;exact h (by rw [e]))]
theorem lO {a:Act} {v:Value} {t:Nat} (h:t<a.tmps.size):(a.put (some t) v).tmps[t]?=some v:=by
 simp [Act.put,h]
theorem d6 {l:Nat→Bool} {v:Nat→Value} {t:Nat}:∀ (os:List Oper) (k:Nat) (a:Act),(∀ i o,os[i]?=some o→l (k+i)=true→o.dst≠some t)→(fill l v os k a).tmps[t]?=a.tmps[t]?
 | [],_,_,_=>rfl
 | o :: os,k,a,h=>by
  unfold fill;rw [d6 os (k+1) _ (fun i x hx hl=>h (i+1) x (by simpa using hx) (by rw [show k+(i+1)=k+1+i from by omega];exact hl))]
  split
  ·rename_i hk
   exact tV (h 0 o rfl hk)
  rfl
theorem jI {l:Nat→Bool} {v:Nat→Value} {t:Nat}:∀ (os:List Oper) (k i:Nat) (o:Oper) (a:Act),apart os=true→os[i]?=some o→l (k+i)=true→o.dst=some t→t<a.tmps.size→(fill l v os k a).tmps[t]?=some (v (k+i))
 | [],_,_,_,_,_,h,_,_,_=>by simp at h
 | x :: os,k,0,o,a,ha,h,hl,hd,ht=>by
  simp only [List.getElem?_cons_zero,Option.some.injEq] at h;subst h;rw [apart,Bool.and_eq_true] at ha;unfold fill;rw [Nat.add_zero] at hl ⊢
  rw [d6 os (k+1) _ (fun i y hy _=>by
   have:=List.all_eq_true.1 ha.1 y (List.mem_of_getElem? hy);rw [sep,hd] at this
   simpa using this),if_pos hl,hd]
  exact lO ht
 | x :: os,k,i+1,o,a,ha,h,hl,hd,ht=>by
  rw [apart,Bool.and_eq_true] at ha;rw [show k+(i+1)=k+1+i from by omega] at hl ⊢;unfold fill;refine jI os (k+1) i o _ ha.2 (by simpa using h) hl hd ?_
  split
  ·rw [ro];exact ht
  exact ht
def left (l:Nat→Bool):Nat→Nat
 | 0=>0
 | n+1=>left l n+if l n then 0 else 1
theorem kP {l l':Nat→Bool}:∀ n:Nat,(∀ j,j<n→l j=l' j)→left l n=left l' n
 | 0,_=>rfl
 | n+1,h=>by unfold left;rw [kP n (fun j hj=>h j (by omega)),h n (by omega)]
theorem gq {l l':Nat→Bool} {i:Nat} (h0:l i=false) (h1:l' i=true) (h2:∀ j,j≠i→l' j=l j):∀ n:Nat,i<n→left l' n+1=left l n
 | 0,h=>by omega
 | n+1,h=>by
  unfold left
  rcases Nat.lt_or_ge i n with q | q
  ·have:=gq h0 h1 h2 n q
   rw [h2 n (by omega)];omega
  obtain rfl:i=n:=by omega
  rw [kP i (l:=l') (l':=l) (fun j hj=>h2 j (by omega)),h0,h1];simp
theorem f7 {l:Nat→Bool}:∀ n:Nat,left l n=0→∀ j,j<n→l j=true
 | 0,_,j,hj=>by omega
 | n+1,h,j,hj=>by
  unfold left at h
  cases hn:l n
  ·rw [hn] at h;simp at h
  rcases Nat.lt_or_ge j n with q | q
  ·exact f7 n (by omega) j q
  obtain rfl:j=n:=by omega
  exact hn
def rd (md:Region.Mode) (ops:Array Oper) (a0:Act) (vals:Nat→Value) (o:Oper) (t:Nat):Option Value:=
 match o.after.toList.find? (fun e=>Region.binds md e && ((ops[e.on]?).bind (·.dst)) == some t) with
 | some e=>some (vals e.on)
 | none=>a0.tmps[t]?
def gR (md:Region.Mode) (ops:Array Oper) (i:Nat) (o:Oper) (t:Nat):Bool:=
 o.after.toList.any (fun e=>Region.binds md e && ((ops[e.on]?).bind (·.dst)) == some t) ||
 (List.range ops.size).all fun j=>match ops[j]? with
  | some x=>x.dst != some t || j == i || x.after.toList.any (fun e=>Region.binds md e && e.on == i)
  | none=>true
def tJ (md:Region.Mode) (ops:Array Oper):Bool:=(List.range ops.size).all fun i=>match ops[i]? with
 | some o=>(o.looksAt ops).all (gR md ops i o)
 | none=>true
def eg (md:Region.Mode) (ops:Array Oper) (n:Nat):Bool:=
 apart ops.toList && tJ md ops && ((List.range ops.size).all fun i=>match ops[i]? with
  | some o=>o.after.toList.all (fun e=>!Region.binds md e || decide (e.on<i)) && (match o.dst with | some d=>decide (d<n) | none=>true)
  | none=>true)
section
variable (P) (Q) (md) (ops:Array Oper) (S:World→Prop) (V:Nat→Value→World→Prop) (a0:Act)
def uI (i:Nat) (o:Oper) (a:Act) (w:World):Prop:=
 if Region.wanted o (yielded ops a.tmps)=true then o.wp P a w (fun a' w'=>∃ v,a'=a.put o.dst v∧V i v w'∧S w'∧∀ j u,V j u w→V j u w') Q else V i undef w
def Req (i:Nat) (o:Oper):Prop:=∀ (a:Act) (w:World) (vals:Nat→Value),S w→(∀ e ∈ o.after,Region.binds md e=true→V e.on (vals e.on) w)→(∀ t ∈ o.looksAt ops,a.tmps[t]?=rd md ops a0 vals o t)→uI P Q ops S V i o a w
def nX:List Oper→Nat→Prop
 | [],_=>True
 | o :: os,k=>Req P Q md ops S V a0 k o∧nX os (k+1)
theorem nX.at {os:List Oper} {k:Nat} (h:nX P Q md ops S V a0 os k):∀ {i:Nat} {o:Oper},os[i]?=some o→Req P Q md ops S V a0 (k+i) o:=by
 induction os generalizing k with
 | nil=>intro i o hi;simp at hi
 | cons x os ih=>
 intro i o hi
 cases i with
 | zero=>
  simp only [List.getElem?_cons_zero,Option.some.injEq] at hi;subst hi;exact h.1
 | succ i=>
 have:=ih h.2 (i:=i) (o:=o) (by simpa using hi);rw [show k+(i+1)=k+1+i from by omega];exact this
def Inv (L:Array Bool) (a:Act) (w:World):Prop:=
 L.size=ops.size∧S w∧(∀ i o,ops[i]?=some o→L.getD i false=true→∀ e ∈ o.after,Region.binds md e=true→L.getD e.on false=true)∧
 ∃ vals:Nat→Value,a=fill (fun j=>L.getD j false) vals ops.toList 0 a0∧∀ i,i<ops.size→L.getD i false=true→V i (vals i) w
end
theorem sZ {ops:Array Oper} {S:World→Prop} {V:Nat→Value→World→Prop} {a0:Act} (hok:eg md ops a0.tmps.size=true)
  (hR:nX P Q md ops S V a0 ops.toList 0) (hF:∀ (vals:Nat→Value) (w:World),S w→(∀ i,i<ops.size→V i (vals i) w)→Q .normal (fill (fun _=>true) vals ops.toList 0 a0) w) :
  ∀ (fuel:Nat) (L:Array Bool) (a:Act) (w:World),left (fun j=>L.getD j false) ops.size≤fuel→Inv md ops S V a0 L a w→wpAny P md ops Q fuel L a w:=by
 rw [eg,Bool.and_eq_true,Bool.and_eq_true] at hok;obtain ⟨⟨hap,hrd⟩,hac⟩:=hok
 have AX:∀ i o,ops[i]?=some o→(∀ e ∈ o.after,Region.binds md e=true→e.on<i)∧∀ d,o.dst=some d→d<a0.tmps.size:=fun i o hi=>by
  have hlt:i<ops.size:=(Array.getElem?_eq_some_iff.1 hi).1;have:=List.all_eq_true.1 hac i (List.mem_range.2 hlt);rw [hi] at this;simp only [Bool.and_eq_true,List.all_eq_true,Bool.or_eq_true,Bool.not_eq_true',decide_eq_true_eq] at this;refine ⟨fun e he hb=>?_,fun d hd=>?_⟩
  ·rcases this.1 e (Array.mem_toList_iff.2 he) with q | q
   ·rw [hb] at q;cases q
   exact q
  have:=this.2;rw [hd] at this
  simpa using this
 have htl:∀ i,ops.toList[i]?=ops[i]?:=fun i=>Array.getElem?_toList
 have hall:∀ L:Array Bool,L.size=ops.size→Region.ready md ops L=[]→∀ i,i<ops.size→L.getD i false=true:=by
  intro L hL hr i
  induction i using Nat.strongRecOn with
  | ind i ih=>
  intro hi
  cases hl:L.getD i false
  ·exfalso
   have hm:i ∈ Region.ready md ops L:=by
    unfold Region.ready;rw [List.mem_filter];refine ⟨List.mem_range.2 hi,?_⟩
    have hg:L.getD i true=false:=by
     rw [Array.getD_eq_getD_getElem?,Array.getElem?_eq_getElem (by omega)] at hl ⊢;exact hl
    rw [hg,Array.getElem?_eq_getElem hi];simp only [Bool.not_false,Bool.true_and,Option.map_some,Option.getD_some];rw [Array.all_eq_true_iff_forall_mem];intro e he
    cases hb:Region.binds md e
    ·rfl
    have hlt:=(AX i _ (Array.getElem?_eq_getElem hi)).1 e he hb;simp [ih e.on hlt (by omega)]
   rw [hr] at hm;cases hm
  rfl
 have hfin:∀ (L:Array Bool) (a:Act) (w:World),Inv md ops S V a0 L a w→Region.ready md ops L=[]→Q .normal a w:=by
  rintro L a w ⟨hL,hS,-,vals,rfl,hv⟩ hr;have h:=hall L hL hr;rw [cE (l':=fun _=>true) (v':=vals) ops.toList 0 a0 (fun j _ hj=>h j (by simpa using hj)) (fun _ _ _=>rfl)]
  exact hF vals w hS fun i hi=>hv i hi (h i hi)
 intro fuel
 induction fuel with
 | zero=>
  intro L a w hl hI;have hz:=f7 _ (Nat.le_zero.1 hl)
  have hr:Region.ready md ops L=[]:=by
   unfold Region.ready;rw [List.filter_eq_nil_iff];intro i hi;have hi:=List.mem_range.1 hi;have h1:=hz i hi
   have hg:L.getD i true=true:=by
    have hsz:=hI.1;simp only [Array.getD_eq_getD_getElem?] at h1 ⊢;rw [Array.getElem?_eq_getElem (by omega)] at h1 ⊢;exact h1
   rw [hg];simp
  exact ⟨hr,hfin L a w hI hr⟩
 | succ fuel ih=>
 intro L a w hl hI;refine ⟨hfin L a w hI,fun i hi=>?_⟩;obtain ⟨hL,hS,hdc,vals,rfl,hv⟩:=hI;obtain ⟨hun,o,ho,Cb⟩:=mem_ready.1 hi;have hilt:i<ops.size:=(Array.getElem?_eq_some_iff.1 ho).1
 have hun':L.getD i false=false:=by
  simp only [Array.getD_eq_getD_getElem?] at hun ⊢;rw [Array.getElem?_eq_getElem (by omega)] at hun ⊢;exact hun
 have hq:=nX.at P Q md ops S V a0 hR (i:=i) (o:=o) (by rw [htl];exact ho);rw [Nat.zero_add] at hq
 have hst:=hq (fill (fun j=>L.getD j false) vals ops.toList 0 a0) w vals hS
  (fun e he hb=>hv e.on (by have:=(AX i o ho).1 e he hb;omega) (Cb e he hb))
  (fun t ht=>by
   unfold rd
   have hr1:gR md ops i o t=true:=by
    have:=List.all_eq_true.1 hrd i (List.mem_range.2 hilt);rw [ho] at this;exact List.all_eq_true.1 this t ht
   cases hf:o.after.toList.find? (fun e=>Region.binds md e && ((ops[e.on]?).bind (·.dst)) == some t) with
   | some e=>
    have h1:=List.find?_some hf;have h2:=List.mem_of_find?_eq_some hf;rw [Bool.and_eq_true,beq_iff_eq] at h1;obtain ⟨x,hx,hxd⟩:=Option.bind_eq_some_iff.1 h1.2;have h3:=Cb e (Array.mem_toList_iff.1 h2) h1.1;have:=jI (l:=fun j=>L.getD j false) (v:=vals) ops.toList 0 e.on x a0 hap (by rw [htl];exact hx) (by simpa using h3) hxd ((AX e.on x hx).2 t hxd);rw [Nat.zero_add] at this;exact this
   | none=>
   refine d6 ops.toList 0 a0 fun j x hx hlj hxd=>?_
   rw [Nat.zero_add] at hlj;rw [htl] at hx;have hjlt:j<ops.size:=(Array.getElem?_eq_some_iff.1 hx).1;rw [gR,Bool.or_eq_true] at hr1
   rcases hr1 with q | q
   ·obtain ⟨e,he,hp⟩:=List.any_eq_true.1 q
    have:=List.find?_eq_none.1 hf e he;exact this hp
   have:=List.all_eq_true.1 q j (List.mem_range.2 hjlt);rw [hx] at this;simp only [Bool.or_eq_true,bne_iff_ne,ne_eq,beq_iff_eq,List.any_eq_true,Bool.and_eq_true] at this
   rcases this with (q1 | q1) | ⟨e,he,hb,hon⟩
   ·exact q1 hxd
   ·subst q1
    rw [hun'] at hlj;cases hlj
   have:=hdc j x hx hlj e (Array.mem_toList_iff.1 he) hb;rw [hon,hun'] at this
   cases this)
 have hnext:∀ (v:Value) (w':World),V i v w'→S w'→(∀ j u,V j u w→V j u w')→wpAny P md ops Q fuel (L.setIfInBounds i true) ((fill (fun j=>L.getD j false) vals ops.toList 0 a0).put o.dst v) w':=by
  intro v w' h1 h2 h3
  have e1:∀ j,(L.setIfInBounds i true).getD j false=if j=i then true else L.getD j false:=fun j=>by
   simp only [Array.getD_eq_getD_getElem?]
   by_cases hji:j=i
   ·subst hji
    rw [Array.getElem?_setIfInBounds_self_of_lt (by omega)];simp
   rw [Array.getElem?_setIfInBounds_ne (fun e=>hji e.symm),if_neg hji]
  refine ih _ _ _ ?_ ⟨by simpa using hL,h2,?_,fun j=>if j=i then v else vals j,?_,?_⟩
  ·have:=gq (l:=fun j=>L.getD j false) (l':=fun j=>(L.setIfInBounds i true).getD j false) hun' (by rw [e1,if_pos rfl]) (fun j hj=>by rw [e1,if_neg hj]) ops.size hilt
   omega
  ·intro j x hx hlj e he hb
   rw [e1] at hlj ⊢
   split
   ·rfl
   split at hlj
   ·rename_i hji
    subst hji;rw [ho] at hx;cases hx
    exact Cb e he hb
   exact hdc j x hx hlj e he hb
  ·rw [gh ops.toList 0 i o a0 hap (by rw [htl];exact ho) (by simpa using hun')]
   rw [Nat.zero_add];exact cE _ _ _ (fun j _ _=>(e1 j).symm) (fun _ _ _=>rfl)
  intro j hj hlj;rw [e1] at hlj
  show V j (if j=i then v else vals j) w'
  split
  ·rename_i hji
   rw [hji];exact h1
  rename_i hji
  rw [if_neg hji] at hlj;exact h3 _ _ (hv j hj hlj)
 unfold wpOp;rw [ho];unfold uI at hst
 dsimp only
 split at hst
 ·rename_i hw
  rw [if_pos hw];refine Or.inl (Oper.wp_mono ?_ hst);rintro a' w' ⟨v,rfl,h1,h2,h3⟩;exact hnext v w' h1 h2 h3
 rename_i hw
 rw [if_neg hw]
 exact hnext undef w hst hS fun _ _ h=>h
theorem region {id:Nat} {ops:Array Oper} {a0:Act} {w:World} (S:World→Prop) (V:Nat→Value→World→Prop) (hm:P.follows .mixedOrders=true) (hok:eg .any ops a0.tmps.size=true)
  (hS:S { w with drawn:=w.drawn+1 }) (hR:nX P Q .any ops S V a0 ops.toList 0)
  (hF:∀ (vals:Nat→Value) (w:World),S w→(∀ i,i<ops.size→V i (vals i) w)→Q .normal (fill (fun _=>true) vals ops.toList 0 a0) w):(Code.region id ops true).wp P Q a0 w:=by
 have rep:∀ j,(Array.replicate ops.size false).getD j false=false:=fun j=>by
  rw [Array.getD_eq_getD_getElem?,Array.getElem?_replicate]
  split <;> rfl
 refine wp_region_any hm (sZ hok hR hF _ _ _ _ ?_ ⟨by simp,hS,?_,fun _=>undef,?_,?_⟩)
 ·have:∀ (l:Nat→Bool) n,left l n≤n:=fun l n=>by
   induction n with
   | zero=>exact wL _
   | succ n ih=>unfold left;split <;> omega
  exact this _ _
 ·intro i o hi hl
  rw [rep] at hl;cases hl
 ·have:∀ (v:Nat→Value) (os:List Oper) (k:Nat) (a:Act),fill (fun _=>false) v os k a=a:=fun v os=>by
   induction os with
   | nil=>intro k a;rfl
   | cons x os ih=>intro k a;unfold fill;simp [ih]
  refine (this _ ops.toList 0 a0).symm.trans (cE _ _ _ (fun j _ hj=>(rep j).symm) (fun _ _ _=>rfl))
 intro i hi hl;rw [rep] at hl;cases hl
end Rg
end
section
open Go Go.RowKit
namespace Rg
inductive Val where
 | is (v:Value)
 | lit (xs:List Int)
 | num (p:Int→Prop)
 | such (p:Value→Prop)
 | at (p:Value→World→Prop)
 | new (B:Nat) (T:TypeId) (xs:Array Value)
def u7 (v:Value) (xs:List Int) (w:World):Prop:=∃ b,v=.slice (some ⟨b,0,none⟩) xs.length xs.length∧b<w.heap.size∧∀ (j:Nat) (x:Int),xs[j]?=some x→w.cell? ⟨b,j,none⟩=some (.int .i64 x)
def Val.ok:Val→Value→World→Prop
 | .is x,v,_=>v=x
 | .lit xs,v,w=>u7 v xs w
 | .num p,v,_=>∃ x,v=.int .i64 x∧p x
 | .such p,v,_=>p v
 | .at p,v,w=>∀ w',Below w.heap.size w w'→p v w'
 | .new B T xs,v,w=>∃ g,B≤g∧v=.pointer (some ⟨g,0,none⟩)∧w.heap[g]?=some (.cells xs T (0,0))
theorem Val.keep {w w':World} (hb:Below w.heap.size w w'):∀ (T:Val) (v:Value),T.ok v w→T.ok v w'
 | .is _,_,h=>h
 | .lit xs,_,⟨b,h1,h2,h3⟩=>⟨b,h1,Nat.lt_of_lt_of_le h2 hb.size,fun j x hx=>(hb.cell (p:=⟨b,j,none⟩) h2).trans (h3 j x hx)⟩
 | .num _,_,h=>h
 | .such _,_,h=>h
 | .at _,_,h=>fun w'' h2=>h w'' (d_ hb h2)
 | .new _ _ _,_,⟨g,hB,e,h⟩=>⟨g,hB,e,(hb.block g (Array.getElem?_eq_some_iff.1 h).1).trans h⟩
def Ak (T:List Val) (i:Nat):Val:=T.getD i (.is undef)
variable {P:Program} {Q:Exit→Act→World→Prop}
def pW (ops:Array Oper) (a0:Act) (T:List Val) (o:Oper) (a:Act) (w:World) (t:Nat):Prop:=
 match o.after.toList.find? (fun e=>Region.binds .any e && ((ops[e.on]?).bind (·.dst)) == some t) with
 | some e=>∃ v,a.tmps[t]?=some v∧(Ak T e.on).ok v w
 | none=>a.tmps[t]?=a0.tmps[t]?
def Does (P:Program) (ops:Array Oper) (Q:Exit→Act→World→Prop) (V:Val) (o:Oper) (a:Act) (w:World):Prop:=
 if Region.wanted o (yielded ops a.tmps)=true then o.wp P a w (fun a' w'=>∃ v,a'=a.put o.dst v∧V.ok v w'∧Below w.heap.size w w') Q else V.ok undef w
theorem ev {a:Act} {t:Nat} {v:Value} (h:a.tmps[t]?=some v):a.eval (.tmp t)=v:=by
 show a.tmps.getD t undef=v
 rw [Array.getD_eq_getD_getElem?,h];rfl
theorem c_ {a:Act} {t:Nat} {x:Value} {w:World} (h:∃ v,a.tmps[t]?=some v∧(Val.is x).ok v w):a.tmps[t]?=some x:=by
 obtain ⟨v,h1,rfl⟩:=h;exact h1
theorem aG {ops:Array Oper} {o:Oper} {a:Act} {w:World} {x:Value} (hw:Region.wanted o (yielded ops a.tmps)=true) (h:(execOp a.eval o).run P w=.ok (.value x) w):Does P ops Q (.is x) o a w:=by
 unfold Does;rw [if_pos hw];unfold Oper.wp;rw [h];exact ⟨x,rfl,rfl,wK _ _⟩
theorem bs {ops:Array Oper} {o:Oper} {a:Act} {w:World} (hw:Region.wanted o (yielded ops a.tmps)=false):Does P ops Q (.is undef) o a w:=by
 unfold Does;rw [if_neg (by rw [hw];exact Bool.false_ne_true)];exact rfl
theorem xO {ops:Array Oper} {a:Act} {j t:Nat} {b:Bool} (h1:(ops[j]?).bind (·.dst)=some t) (h2:a.tmps[t]?=some (.bool b)):yielded ops a.tmps j=some b:=by
 unfold yielded;rw [h1]
 show (match a.tmps[t]? with | some (.bool b)=>some b | _=>none)=some b
 rw [h2]
theorem ai {o:Oper} {y:Nat→Option Bool} {j:Nat} {b:Bool} (hg:o.guard=some (j,b)) (hy:y j=some b):Region.wanted o y=true:=by
 unfold Region.wanted;rw [hg]
 show (y j == some b)=true
 rw [hy]
 cases b <;> rfl
theorem bE {o:Oper} {y:Nat→Option Bool} {j:Nat} {b:Bool} (hg:o.guard=some (j,!b)) (hy:y j=some b):Region.wanted o y=false:=by
 unfold Region.wanted;rw [hg]
 show (y j == some (!b))=false
 rw [hy]
 cases b <;> rfl
theorem wr {x:Int} (h1:-9223372036854775808≤x) (h2:x≤9223372036854775807):IntKind.i64.wrap x=x:=by rw [IntKind.wrap_i64];omega
theorem j6 {ops:Array Oper} {o:Oper} {a:Act} {w:World} {x:Value} {V:Val} {ob:Obj} (hw:Region.wanted o (yielded ops a.tmps)=true) (h:(execOp a.eval o).run P w=.ok (.value x) (w.alloc ob)) (hV:V.ok x (w.alloc ob)):Does P ops Q V o a w:=by
 unfold Does;rw [if_pos hw];unfold Oper.wp;rw [h];exact ⟨x,rfl,hV,(wK _ _).alloc (wL _) ob⟩
theorem ah {ops:Array Oper} {o:Oper} {a:Act} {w:World} {V:Val} {f:FuncId} {args:Array Value} (hw:Region.wanted o (yielded ops a.tmps)=true) (h:(execOp a.eval o).run P w=.ok (.enter f args) w)
  (hc:Calls P f args w fun e w'=>∃ v,e=.returned v∧V.ok v w'∧Below w.heap.size w w'):Does P ops Q V o a w:=by
 unfold Does;rw [if_pos hw];unfold Oper.wp;rw [h];refine Calls.mono hc ?_;rintro e w' ⟨v,rfl,h1,h2⟩;exact ⟨v,rfl,h1,h2⟩
theorem bo {ops:Array Oper} {o:Oper} {a:Act} {w:World} {v:Value} {f:FuncId} {args:Array Value} (hw:Region.wanted o (yielded ops a.tmps)=true) (h:(execOp a.eval o).run P w=.ok (.enter f args) w)
  (hc:Calls P f args w fun e w'=>e=.returned v∧Below w.heap.size w w'):Does P ops Q (.is v) o a w:=
 ah hw h (hc.mono fun _ _ ⟨e,b⟩=>⟨v,e,rfl,b⟩)
theorem ef (a:Act):∀ f,a.eval (.func f)=.func (.func f) #[] #[]:=fun _=>rfl
theorem ec (a:Act):∀ v,a.eval (.const v)=v:=fun _=>rfl
theorem wo {x:Int} (h:-9223372036854775808≤x∧x≤9223372036854775807):IntKind.i64.wrap x=x:=wr h.1 h.2
end Rg
namespace Rg
variable {P:Program} {Q:Exit→Act→World→Prop} {md:Region.Mode}
def FY (md:Region.Mode) (ops:Array Oper):Nat→Nat→Nat→Bool
 | 0,_,_=>false
 | f+1,i,j=>match ops[i]? with
  | some o=>o.after.toList.any (fun e=>Region.binds md e && e.on == j) || o.after.toList.any (fun e=>Region.binds md e && FY md ops f e.on j)
  | none=>false
def ig (md:Region.Mode) (ops:Array Oper) (n0:Nat):Bool:=decide (n0≤ops.size) && (List.range ops.size).all fun i=>decide (i<n0) || ((match ops[i]? with | some o=>o.guard.isNone | none=>true) && (List.range i).all fun j=>FY md ops 3 i j)
def aZ (P:Program) (Q:Exit→Act→World→Prop):List Oper→Act→World→Prop
 | [],a,w=>Q .normal a w
 | o :: os,a,w=>o.wp P a w (fun a' w'=>aZ P Q os a' w') Q
theorem jW {ops:Array Oper} {L:Array Bool} (hdc:∀ i o,ops[i]?=some o→L.getD i false=true→∀ e ∈ o.after,Region.binds md e=true→L.getD e.on false=true):∀ (f i j:Nat) (o:Oper),ops[i]?=some o→
  (∀ e ∈ o.after,Region.binds md e=true→L.getD e.on false=true)→FY md ops f i j=true→L.getD j false=true
 | 0,_,_,_,_,_,h=>by simp [FY] at h
 | f+1,i,j,o,ho,hd,h=>by
  unfold FY at h;rw [ho] at h;simp only [Bool.or_eq_true,List.any_eq_true,Bool.and_eq_true,beq_iff_eq] at h
  rcases h with ⟨e,he,hb,rfl⟩ | ⟨e,he,hb,ha⟩
  ·exact hd e (Array.mem_toList_iff.1 he) hb
  have hde:=hd e (Array.mem_toList_iff.1 he) hb
  cases ho2:ops[e.on]? with
  | none=>
   exfalso
   cases f with
   | zero=>simp [FY] at ha
   | succ f=>unfold FY at ha;rw [ho2] at ha;exact absurd ha (by simp)
  | some o2=>exact jW hdc f e.on j o2 ho2 (hdc e.on o2 ho2 hde) ha
theorem kX {ops:Array Oper} {n0:Nat} (ht:ig md ops n0=true):n0≤ops.size∧∀ i,i<ops.size→n0≤i→(∀ o,ops[i]?=some o→o.guard=none)∧∀ j,j<i→FY md ops 3 i j=true:=by
 rw [ig,Bool.and_eq_true] at ht;refine ⟨of_decide_eq_true ht.1,fun i hi hn=>?_⟩;have:=List.all_eq_true.1 ht.2 i (List.mem_range.2 hi);simp only [Bool.or_eq_true,decide_eq_true_eq,Bool.and_eq_true,List.all_eq_true,List.mem_range] at this
 rcases this with q | ⟨q1,q2⟩
 ·omega
 refine ⟨fun o ho=>?_,q2⟩;rw [ho] at q1;exact Option.isNone_iff_eq_none.1 q1
theorem ol {L:Array Bool} {i:Nat} (h:i<L.size):L.getD i true=L.getD i false:=by
 simp only [Array.getD_eq_getD_getElem?];rw [Array.getElem?_eq_getElem h];rfl
theorem oH {ops:Array Oper} {n0:Nat} (ht:ig md ops n0=true) (hac:∀ i o,ops[i]?=some o→∀ e ∈ o.after,Region.binds md e=true→e.on<i) :
  ∀ (fuel:Nat) (L:Array Bool) (a:Act) (w:World) (k:Nat),n0≤k→k≤ops.size→L.size=ops.size→(∀ j,j<ops.size→L.getD j false=decide (j<k))→
  ops.size - k≤fuel→aZ P Q (ops.toList.drop k) a w→wpAny P md ops Q fuel L a w:=by
 obtain ⟨-,htl⟩:=kX ht
 have IP:∀ (L:Array Bool) (k:Nat),n0≤k→(∀ j,j<ops.size→L.getD j false=decide (j<k))→L.size=ops.size→∀ i,i ∈ Region.ready md ops L→i=k∧i<ops.size:=by
  intro L k hk hL hsz i hi;obtain ⟨hun,o,ho,Cb⟩:=mem_ready.1 hi;have hilt:i<ops.size:=(Array.getElem?_eq_some_iff.1 ho).1;rw [ol (by omega),hL i hilt,decide_eq_false_iff_not] at hun;refine ⟨?_,hilt⟩
  rcases Nat.lt_or_ge k i with q | q
  ·exfalso
   have hdc:∀ i o,ops[i]?=some o→L.getD i false=true→∀ e ∈ o.after,Region.binds md e=true→L.getD e.on false=true:=by
    intro i' o' ho' hl' e he hb;have hi':i'<ops.size:=(Array.getElem?_eq_some_iff.1 ho').1;rw [hL i' hi',decide_eq_true_eq] at hl';have:=hac i' o' ho' e he hb;rw [hL e.on (by omega),decide_eq_true_eq];omega
   have:=jW hdc 3 i k o ho Cb ((htl i hilt (by omega)).2 k q);rw [hL k (by omega),decide_eq_true_eq] at this;omega
  omega
 have hend:∀ (L:Array Bool) (a:Act) (w:World) (k:Nat),n0≤k→k≤ops.size→L.size=ops.size→(∀ j,j<ops.size→L.getD j false=decide (j<k))→aZ P Q (ops.toList.drop k) a w→Region.ready md ops L=[]→Q .normal a w:=by
  intro L a w k hk hk2 hsz hL h hr
  have hks:k=ops.size:=by
   rcases Nat.lt_or_ge k ops.size with q | q
   ·exfalso
    have hm:k ∈ Region.ready md ops L:=by
     refine mem_ready.2 ⟨?_,_,Array.getElem?_eq_getElem q,fun e he hb=>?_⟩
     ·rw [ol (by omega),hL k q]
      simp
     have:=hac k _ (Array.getElem?_eq_getElem q) e he hb;rw [hL e.on (by omega),decide_eq_true_eq];exact this
    rw [hr] at hm;cases hm
   omega
  subst hks;rw [List.drop_eq_nil_of_le (by simp)] at h;exact h
 intro fuel
 induction fuel with
 | zero=>
  intro L a w k hk hk2 hsz hL hf h
  have hr:Region.ready md ops L=[]:=by
   rw [List.eq_nil_iff_forall_not_mem];intro i hi;have:=IP L k hk hL hsz i hi;omega
  exact ⟨hr,hend L a w k hk hk2 hsz hL h hr⟩
 | succ fuel ih=>
 intro L a w k hk hk2 hsz hL hf h;refine ⟨hend L a w k hk hk2 hsz hL h,fun i hi=>?_⟩;obtain ⟨rfl,hilt⟩:=IP L k hk hL hsz i hi;have ho:ops[i]?=some ops[i]:=Array.getElem?_eq_getElem hilt
 have hdr:ops.toList.drop i=ops[i] :: ops.toList.drop (i+1):=by
  rw [List.drop_eq_getElem_cons (by simpa using hilt)];simp
 rw [hdr] at h;unfold wpOp;rw [ho]
 dsimp only
 have hg:=(htl i hilt hk).1 _ ho
 have hw:Region.wanted ops[i] (yielded ops a.tmps)=true:=by
  unfold Region.wanted;rw [hg]
 rw [if_pos hw];refine Or.inl (Oper.wp_mono ?_ h);intro a' w' h';refine ih _ a' w' (i+1) (by omega) (by omega) (by simpa using hsz) (fun j hj=>?_) (by omega) h';simp only [Array.getD_eq_getD_getElem?]
 by_cases hji:j=i
 ·subst hji
  rw [Array.getElem?_setIfInBounds_self_of_lt (by omega)];simp
 rw [Array.getElem?_setIfInBounds_ne (fun e=>hji e.symm)];have:=hL j hj;simp only [Array.getD_eq_getD_getElem?] at this;rw [this,decide_eq_decide];omega
theorem ou {l:Nat→Bool} {k:Nat}:∀ n:Nat,(∀ j,j<n→l j=decide (j<k))→left l n=n - min k n
 | 0,_=>by simp [left]
 | n+1,h=>by
  unfold left;rw [ou n (fun j hj=>h j (by omega)),h n (by omega)]
  by_cases q:n<k
  ·rw [decide_eq_true q,if_pos rfl]
   omega
  rw [decide_eq_false q,if_neg (by decide)];omega
theorem iO {l:Nat→Bool} {v:Nat→Value}:∀ (os:List Oper) (k m:Nat) (a:Act),(∀ j,k≤j→j<k+os.length→l j=decide (j<k+m))→fill l v os k a=fill (fun _=>true) v (os.take m) k a
 | [],k,m,a,_=>by rw [List.take_nil];rfl
 | o :: os,k,0,a,h=>by
  rw [List.take_zero];unfold fill
  rw [h k (wL _) (by simp),decide_eq_false (by omega),if_neg (by decide),iO os (k+1) 0 a (fun j h1 h2=>by
   rw [h j (by omega) (by simp;omega),decide_eq_decide]
   omega),List.take_zero]
  rfl
 | o :: os,k,m+1,a,h=>by
  rw [List.take_succ_cons];unfold fill;rw [h k (wL _) (by simp),decide_eq_true (by omega),if_pos rfl]
  exact iO os (k+1) m _ fun j h1 h2=>by
   rw [h j (by omega) (by simp;omega),decide_eq_decide];omega
section
variable (P) (Q) (md) (ops:Array Oper) (S:World→Prop) (V:Nat→Value→World→Prop) (a0:Act) (fr:Nat→Bool)
def qb (i:Nat) (o:Oper) (a:Act) (w:World):Prop:=
 if Region.wanted o (yielded ops a.tmps)=true then o.wp P a w (fun a' w'=>∃ v,a'=a.put o.dst v∧V i v w'∧S w'∧(∀ j u,V j u w→V j u w')∧(fr i=true→∀ j u,fr j=true→V j u w→u≠v)) Q else V i undef w∧fr i=false
def uG (i:Nat) (o:Oper):Prop:=∀ (a:Act) (w:World) (vals:Nat→Value),S w→(∀ e ∈ o.after,Region.binds md e=true→V e.on (vals e.on) w)→(∀ t ∈ o.looksAt ops,a.tmps[t]?=rd md ops a0 vals o t)→qb P Q ops S V fr i o a w
def jT:List Oper→Nat→Prop
 | [],_=>True
 | o :: os,k=>uG P Q md ops S V a0 fr k o∧jT os (k+1)
theorem jT.at {os:List Oper} {k:Nat} (h:jT P Q md ops S V a0 fr os k):∀ {i:Nat} {o:Oper},os[i]?=some o→uG P Q md ops S V a0 fr (k+i) o:=by
 induction os generalizing k with
 | nil=>intro i o hi;simp at hi
 | cons x os ih=>
 intro i o hi
 cases i with
 | zero=>
  simp only [List.getElem?_cons_zero,Option.some.injEq] at hi;subst hi;exact h.1
 | succ i=>
 have:=ih h.2 (i:=i) (o:=o) (by simpa using hi);rw [show k+(i+1)=k+1+i from by omega];exact this
def ux (L:Array Bool) (a:Act) (w:World):Prop:=
 L.size=ops.size∧S w∧(∀ i o,ops[i]?=some o→L.getD i false=true→∀ e ∈ o.after,Region.binds md e=true→L.getD e.on false=true)∧
 ∃ vals:Nat→Value,a=fill (fun j=>L.getD j false) vals ops.toList 0 a0∧(∀ i,i<ops.size→L.getD i false=true→V i (vals i) w)∧
  ∀ i j,i<ops.size→j<ops.size→L.getD i false=true→L.getD j false=true→i≠j→fr i=true→fr j=true→vals i≠vals j
end
theorem qT {ops:Array Oper} {S:World→Prop} {V:Nat→Value→World→Prop} {a0:Act} {n0:Nat} {fr:Nat→Bool} (hok:eg md ops a0.tmps.size=true) (ht:ig md ops n0=true)
  (hR:jT P Q md ops S V a0 fr (ops.toList.take n0) 0) (hF:∀ (vals:Nat→Value) (w:World),S w→(∀ i,i<n0→V i (vals i) w)→(∀ i j,i<n0→j<n0→i≠j→fr i=true→fr j=true→vals i≠vals j)→aZ P Q (ops.toList.drop n0) (fill (fun _=>true) vals (ops.toList.take n0) 0 a0) w) :
  ∀ (fuel:Nat) (L:Array Bool) (a:Act) (w:World),left (fun j=>L.getD j false) ops.size≤fuel→(∀ i,i<ops.size→L.getD i false=true→i<n0)→ux md ops S V a0 fr L a w→wpAny P md ops Q fuel L a w:=by
 obtain ⟨hn0,hta⟩:=kX ht;rw [eg,Bool.and_eq_true,Bool.and_eq_true] at hok;obtain ⟨⟨hap,hrd⟩,hac⟩:=hok
 have AX:∀ i o,ops[i]?=some o→(∀ e ∈ o.after,Region.binds md e=true→e.on<i)∧∀ d,o.dst=some d→d<a0.tmps.size:=fun i o hi=>by
  have hlt:i<ops.size:=(Array.getElem?_eq_some_iff.1 hi).1;have:=List.all_eq_true.1 hac i (List.mem_range.2 hlt);rw [hi] at this;simp only [Bool.and_eq_true,List.all_eq_true,Bool.or_eq_true,Bool.not_eq_true',decide_eq_true_eq] at this;refine ⟨fun e he hb=>?_,fun d hd=>?_⟩
  ·rcases this.1 e (Array.mem_toList_iff.2 he) with q | q
   ·rw [hb] at q;cases q
   exact q
  have:=this.2;rw [hd] at this
  simpa using this
 have htl:∀ i,ops.toList[i]?=ops[i]?:=fun i=>Array.getElem?_toList
 have hall:∀ L:Array Bool,L.size=ops.size→Region.ready md ops L=[]→∀ i,i<ops.size→L.getD i false=true:=by
  intro L hL hr i
  induction i using Nat.strongRecOn with
  | ind i ih=>
  intro hi
  cases hl:L.getD i false
  ·exfalso
   have hm:i ∈ Region.ready md ops L:=by
    unfold Region.ready;rw [List.mem_filter];refine ⟨List.mem_range.2 hi,?_⟩
    have hg:L.getD i true=false:=by
     rw [Array.getD_eq_getD_getElem?,Array.getElem?_eq_getElem (by omega)] at hl ⊢;exact hl
    rw [hg,Array.getElem?_eq_getElem hi];simp only [Bool.not_false,Bool.true_and,Option.map_some,Option.getD_some];rw [Array.all_eq_true_iff_forall_mem];intro e he
    cases hb:Region.binds md e
    ·rfl
    have hlt:=(AX i _ (Array.getElem?_eq_getElem hi)).1 e he hb;simp [ih e.on hlt (by omega)]
   rw [hr] at hm;cases hm
  rfl
 have hdone:∀ (fuel:Nat) (L:Array Bool) (a:Act) (w:World),left (fun j=>L.getD j false) ops.size≤fuel→(∀ i,i<ops.size→L.getD i false=true→i<n0)→ux md ops S V a0 fr L a w→(∀ j,j<n0→L.getD j false=true)→wpAny P md ops Q fuel L a w:=by
  rintro fuel L a w hl hb ⟨hL,hS,hdc,vals,rfl,hv,hfr⟩ hj
  have Md:∀ j,j<ops.size→L.getD j false=decide (j<n0):=fun j hjs=>by
   by_cases q:j<n0
   ·rw [hj j q,decide_eq_true q]
   rw [decide_eq_false q]
   cases hc:L.getD j false
   ·rfl
   exact absurd (hb j hjs hc) q
  rw [ou (k:=n0) ops.size Md] at hl;refine oH ht (fun i o hi=>(AX i o hi).1) fuel L _ w n0 (wL _) hn0 hL Md (by omega) ?_;rw [iO (l:=fun j=>L.getD j false) (m:=n0) ops.toList 0 a0 (fun j _ h2=>by rw [Nat.zero_add];exact Md j (by simpa using h2))]
  exact hF vals w hS (fun i hi=>hv i (by omega) (hj i hi)) fun i j hi hj' hne=>hfr i j (by omega) (by omega) (hj i hi) (hj j hj') hne
 intro fuel
 induction fuel with
 | zero=>
  intro L a w hl hb hI;have hz:=f7 _ (Nat.le_zero.1 hl);exact hdone 0 L a w hl hb hI (fun j hj=>hz j (by omega))
 | succ fuel ih=>
 intro L a w hl hb hI
 by_cases hj:∀ j,j<n0→L.getD j false=true
 ·exact hdone _ L a w hl hb hI hj
 refine ⟨fun hr=>absurd (fun j hjn=>hall L hI.1 hr j (by omega)) hj,fun i hi=>?_⟩;obtain ⟨hL,hS,hdc,vals,rfl,hv,hfr⟩:=hI;obtain ⟨hun,o,ho,Cb⟩:=mem_ready.1 hi;have hilt:i<ops.size:=(Array.getElem?_eq_some_iff.1 ho).1
 have hin:i<n0:=by
  rcases Nat.lt_or_ge i n0 with q | q
  ·exact q
  exact absurd (fun j hjn=>jW hdc 3 i j o ho Cb ((hta i hilt q).2 j (by omega))) hj
 have hun':L.getD i false=false:=by
  simp only [Array.getD_eq_getD_getElem?] at hun ⊢;rw [Array.getElem?_eq_getElem (by omega)] at hun ⊢;exact hun
 have hq:=jT.at P Q md ops S V a0 fr hR (i:=i) (o:=o) (by rw [List.getElem?_take_of_lt hin,htl];exact ho);rw [Nat.zero_add] at hq
 have hst:=hq (fill (fun j=>L.getD j false) vals ops.toList 0 a0) w vals hS
  (fun e he hb=>hv e.on (by have:=(AX i o ho).1 e he hb;omega) (Cb e he hb))
  (fun t ht=>by
   unfold rd
   have hr1:gR md ops i o t=true:=by
    have:=List.all_eq_true.1 hrd i (List.mem_range.2 hilt);rw [ho] at this;exact List.all_eq_true.1 this t ht
   cases hf:o.after.toList.find? (fun e=>Region.binds md e && ((ops[e.on]?).bind (·.dst)) == some t) with
   | some e=>
    have h1:=List.find?_some hf;have h2:=List.mem_of_find?_eq_some hf;rw [Bool.and_eq_true,beq_iff_eq] at h1;obtain ⟨x,hx,hxd⟩:=Option.bind_eq_some_iff.1 h1.2;have h3:=Cb e (Array.mem_toList_iff.1 h2) h1.1;have:=jI (l:=fun j=>L.getD j false) (v:=vals) ops.toList 0 e.on x a0 hap (by rw [htl];exact hx) (by simpa using h3) hxd ((AX e.on x hx).2 t hxd);rw [Nat.zero_add] at this;exact this
   | none=>
   refine d6 ops.toList 0 a0 fun j x hx hlj hxd=>?_
   rw [Nat.zero_add] at hlj;rw [htl] at hx;have hjlt:j<ops.size:=(Array.getElem?_eq_some_iff.1 hx).1;rw [gR,Bool.or_eq_true] at hr1
   rcases hr1 with q | q
   ·obtain ⟨e,he,hp⟩:=List.any_eq_true.1 q
    have:=List.find?_eq_none.1 hf e he;exact this hp
   have:=List.all_eq_true.1 q j (List.mem_range.2 hjlt);rw [hx] at this;simp only [Bool.or_eq_true,bne_iff_ne,ne_eq,beq_iff_eq,List.any_eq_true,Bool.and_eq_true] at this
   rcases this with (q1 | q1) | ⟨e,he,hb,hon⟩
   ·exact q1 hxd
   ·subst q1
    rw [hun'] at hlj;cases hlj
   have:=hdc j x hx hlj e (Array.mem_toList_iff.1 he) hb;rw [hon,hun'] at this
   cases this)
 have hnext:∀ (v:Value) (w':World),V i v w'→S w'→(∀ j u,V j u w→V j u w')→(fr i=true→∀ j u,fr j=true→V j u w→u≠v)→wpAny P md ops Q fuel (L.setIfInBounds i true) ((fill (fun j=>L.getD j false) vals ops.toList 0 a0).put o.dst v) w':=by
  intro v w' h1 h2 h3 h4
  have e1:∀ j,(L.setIfInBounds i true).getD j false=if j=i then true else L.getD j false:=fun j=>by
   simp only [Array.getD_eq_getD_getElem?]
   by_cases hji:j=i
   ·subst hji
    rw [Array.getElem?_setIfInBounds_self_of_lt (by omega)];simp
   rw [Array.getElem?_setIfInBounds_ne (fun e=>hji e.symm),if_neg hji]
  refine ih _ _ _ ?_ (fun j hjs hlj=>by rw [e1] at hlj;split at hlj <;> first | omega | exact hb j hjs hlj) ⟨by simpa using hL,h2,?_,fun j=>if j=i then v else vals j,?_,?_,?_⟩
  ·have:=gq (l:=fun j=>L.getD j false) (l':=fun j=>(L.setIfInBounds i true).getD j false) hun' (by rw [e1,if_pos rfl]) (fun j hj=>by rw [e1,if_neg hj]) ops.size hilt
   omega
  ·intro j x hx hlj e he hb
   rw [e1] at hlj ⊢
   split
   ·rfl
   split at hlj
   ·rename_i hji
    subst hji;rw [ho] at hx;cases hx
    exact Cb e he hb
   exact hdc j x hx hlj e he hb
  ·rw [gh ops.toList 0 i o a0 hap (by rw [htl];exact ho) (by simpa using hun')]
   rw [Nat.zero_add];exact cE _ _ _ (fun j _ _=>(e1 j).symm) (fun _ _ _=>rfl)
  ·intro j hj hlj
   rw [e1] at hlj
   show V j (if j=i then v else vals j) w'
   split
   ·rename_i hji
    rw [hji];exact h1
   rename_i hji
   rw [if_neg hji] at hlj;exact h3 _ _ (hv j hj hlj)
  intro j k hj hk hlj hlk hne fj fk;rw [e1] at hlj hlk
  show (if j=i then v else vals j)≠(if k=i then v else vals k)
  split at hlj
  ·rename_i hji
   subst hji;rw [if_pos rfl,if_neg (fun e=>hne e.symm)];rw [if_neg (fun e=>hne e.symm)] at hlk
   exact fun e=>h4 fj k (vals k) fk (hv k hk hlk) e.symm
  rename_i hji
  rw [if_neg hji]
  split at hlk
  ·rename_i hki
   rw [if_pos hki];subst hki;exact h4 fk j (vals j) fj (hv j hj hlj)
  rename_i hki
  rw [if_neg hki];exact hfr j k hj hk hlj hlk hne fj fk
 unfold wpOp;rw [ho];unfold qb at hst
 dsimp only
 split at hst
 ·rename_i hw
  rw [if_pos hw];refine Or.inl (Oper.wp_mono ?_ hst);rintro a' w' ⟨v,rfl,h1,h2,h3,h4⟩;exact hnext v w' h1 h2 h3 h4
 rename_i hw
 rw [if_neg hw]
 exact hnext undef w hst.1 hS (fun _ _ h=>h) fun e=>by rw [hst.2] at e;cases e
theorem ta {id:Nat} {ops:Array Oper} {a0:Act} {w:World} {n0:Nat} (fr:Nat→Bool) (S:World→Prop) (V:Nat→Value→World→Prop) (hm:P.follows .mixedOrders=true) (hok:eg .any ops a0.tmps.size=true) (ht:ig .any ops n0=true)
  (hS:S { w with drawn:=w.drawn+1 }) (hR:jT P Q .any ops S V a0 fr (ops.toList.take n0) 0)
  (hF:∀ (vals:Nat→Value) (w:World),S w→(∀ i,i<n0→V i (vals i) w)→(∀ i j,i<n0→j<n0→i≠j→fr i=true→fr j=true→vals i≠vals j)→aZ P Q (ops.toList.drop n0) (fill (fun _=>true) vals (ops.toList.take n0) 0 a0) w):(Code.region id ops true).wp P Q a0 w:=by
 have rep:∀ j,(Array.replicate ops.size false).getD j false=false:=fun j=>by
  rw [Array.getD_eq_getD_getElem?,Array.getElem?_replicate]
  split <;> rfl
 refine wp_region_any hm (qT hok ht hR hF _ _ _ _ ?_ (fun i _ hl=>by rw [rep] at hl;cases hl) ⟨by simp,hS,?_,fun _=>undef,?_,?_,?_⟩)
 ·have:∀ (l:Nat→Bool) n,left l n≤n:=fun l n=>by
   induction n with
   | zero=>exact wL _
   | succ n ih=>unfold left;split <;> omega
  exact this _ _
 ·intro i o hi hl
  rw [rep] at hl;cases hl
 ·have:∀ (v:Nat→Value) (os:List Oper) (k:Nat) (a:Act),fill (fun _=>false) v os k a=a:=fun v os=>by
   induction os with
   | nil=>intro k a;rfl
   | cons x os ih=>intro k a;unfold fill;simp [ih]
  refine (this _ ops.toList 0 a0).symm.trans (cE _ _ _ (fun j _ hj=>(rep j).symm) (fun _ _ _=>rfl))
 ·intro i hi hl
  rw [rep] at hl;cases hl
 intro i j _ _ hl;rw [rep] at hl;cases hl
def oM (P:Program) (ops:Array Oper) (Q:Exit→Act→World→Prop) (a0:Act) (T:List Val) (w1:World) (i:Nat) (o:Oper):Prop:=
 match Ak T i with
 | .new B Ty xs=>∀ (a:Act) (w:World),Below w1.heap.size w1 w→(∀ t ∈ o.looksAt ops,pW ops a0 T o a w t)→B≤w.heap.size∧Region.wanted o (yielded ops a.tmps)=true∧(execOp a.eval o).run P w=.ok (.value (.pointer (some ⟨w.heap.size,0,none⟩))) (w.alloc (.cells xs Ty))
 | V=>∀ (a:Act) (w:World),Below w1.heap.size w1 w→(∀ t ∈ o.looksAt ops,pW ops a0 T o a w t)→Does P ops Q V o a w
def Val.kJ:Val→Bool
 | .new _ _ _=>true
 | _=>false
def nV (P:Program) (ops:Array Oper) (Q:Exit→Act→World→Prop) (a0:Act) (T:List Val) (w1:World) (n0:Nat):List Oper→Nat→Prop
 | [],_=>True
 | o :: os,k=>(k<n0→oM P ops Q a0 T w1 k o)∧nV P ops Q a0 T w1 n0 os (k+1)
theorem tc {ops:Array Oper} {a0:Act} {T:List Val} {w1:World} {k:Nat} {o:Oper} (h:oM P ops Q a0 T w1 k o):uG P Q .any ops (fun w=>Below w1.heap.size w1 w) (fun i v w=>(Ak T i).ok v w) a0 (fun i=>(Ak T i).kJ) k o:=by
 intro a w vals hS hv hr
 have hl:∀ t ∈ o.looksAt ops,pW ops a0 T o a w t:=fun t ht=>by
  have:=hr t ht;unfold rd at this;unfold pW
  split
  ·rename_i e he
   rw [he] at this;have h2:=List.find?_some he;rw [Bool.and_eq_true] at h2;exact ⟨_,this,hv e (Array.mem_toList_iff.1 (List.mem_of_find?_eq_some he)) h2.1⟩
  rename_i he
  rw [he] at this;exact this
 unfold qb
 dsimp only
 by_cases hn:(Ak T k).kJ=true
 ·cases hT:Ak T k with
  | new B Ty xs=>
   unfold oM at h;rw [hT] at h;obtain ⟨h0,h1,h2⟩:=h a w hS hl;rw [if_pos h1];unfold Oper.wp;rw [h2];refine ⟨_,rfl,⟨w.heap.size,h0,rfl,?_⟩,hS.trans (((wK _ _).alloc (wL _) _).mono hS.size),fun j u hu=>Val.keep ((wK _ _).alloc (wL _) _) _ _ hu,fun _ j u hj hu=>?_⟩
   ·show (w.heap.push _)[w.heap.size]?=_
    simp
   cases hTj:Ak T j with
   | new B' Ty' xs'=>
    rw [hTj] at hu;obtain ⟨g,-,rfl,hg⟩:=hu;intro e;have hlt:=(Array.getElem?_eq_some_iff.1 hg).1
    injection e with e
    injection e with e
    injection e with e
    omega
   | _=>rw [hTj] at hj;cases hj
  | _=>rw [hT] at hn;cases hn
 have h1:Does P ops Q (Ak T k) o a w:=by
  unfold oM at h
  split at h
  ·rename_i hT
   rw [hT] at hn;exact absurd rfl hn
  exact h a w hS hl
 unfold Does at h1
 split
 ·rename_i hw
  rw [if_pos hw] at h1;refine Oper.wp_mono ?_ h1;rintro a' w' ⟨v,e1,e2,e3⟩;exact ⟨v,e1,e2,d_ hS e3,fun j u hu=>Val.keep e3 _ _ hu,fun e=>absurd e hn⟩
 rename_i hw
 rw [if_neg hw] at h1;exact ⟨h1,by simpa using hn⟩
theorem kS {ops:Array Oper} {a0:Act} {T:List Val} {w1:World} {n0:Nat}:∀ (os:List Oper) (k m:Nat),k+m=n0→nV P ops Q a0 T w1 n0 os k→jT P Q .any ops (fun w=>Below w1.heap.size w1 w) (fun i v w=>(Ak T i).ok v w) a0 (fun i=>(Ak T i).kJ) (os.take m) k
 | [],_,m,_,_=>by rw [List.take_nil];trivial
 | o :: os,k,0,_,_=>by rw [List.take_zero];trivial
 | o :: os,k,m+1,h,hr=>by rw [List.take_succ_cons];exact ⟨tc (hr.1 (by omega)),kS os (k+1) m (by omega) hr.2⟩
theorem bO {id:Nat} {ops:Array Oper} {a0:Act} {w:World} (n0:Nat) (T:List Val) (hm:P.follows .mixedOrders=true) (hok:eg .any ops a0.tmps.size=true) (ht:ig .any ops n0=true)
  (hR:nV P ops Q a0 T w n0 ops.toList 0)
  (hF:∀ (vals:Nat→Value) (w':World),Below w.heap.size w w'→(∀ i,i<n0→(Ak T i).ok (vals i) w')→(∀ i j,i<n0→j<n0→i≠j→(Ak T i).kJ=true→(Ak T j).kJ=true→vals i≠vals j)→aZ P Q (ops.toList.drop n0) (fill (fun _=>true) vals (ops.toList.take n0) 0 a0) w'):(Code.region id ops true).wp P Q a0 w:=
 ta (fun i=>(Ak T i).kJ) (fun w'=>Below w.heap.size w w') (fun i v w'=>(Ak T i).ok v w') hm hok ht ((wK _ w).drew) (kS _ 0 n0 (Nat.zero_add _) hR) hF
theorem aj {p:Value→World→Prop} {v:Value} {w:World} (h:(Val.at p).ok v w):p v w:=h w (wK _ _)
end Rg
end
section
open Go.RowKit
def aH (W:World) (g:Nat) (T:TypeId) (xs:Array Value):Prop:=W.heap[g]?=some (.cells xs T (0,0))
namespace aH
variable {W W':World} {g:Nat} {T:TypeId} {xs:Array Value}
theorem lt (h:aH W g T xs):g<W.heap.size:=(Array.getElem?_eq_some_iff.1 h).1
theorem keep (h:aH W g T xs) (hb:Below W.heap.size W W'):aH W' g T xs:=(hb.block g h.lt).trans h
theorem new (w:World) (xs:Array Value) (T:TypeId):aH (w.alloc (.cells xs T)) w.heap.size T xs:=by
 show (w.heap.push (.cells xs T))[w.heap.size]?=_
 simp
theorem alloc (h:aH W g T xs) (o:Obj):aH (W.alloc o) g T xs:=h.keep ((wK _ _).alloc (wL _) o)
theorem drew (h:aH W g T xs):aH W.drew g T xs:=h
theorem cell (h:aH W g T xs) (i:Nat):W.cell? ⟨g,i,none⟩=xs[i]?:=by
 unfold aH at h;simp [World.cell?,h]
theorem xC (h:aH W g T xs) (i:Nat):W.frozen? ⟨g,i,none⟩=false:=by
 unfold aH at h;simp [World.frozen?,h]
theorem set (h:aH W g T xs) (i:Nat) (x:Value):aH (W.setCell ⟨g,i,none⟩ x) g T (xs.setIfInBounds i x):=by
 have hl:=h.lt;unfold aH at *;rw [World.setCell]
 show (W.heap.modify g _)[g]?=_
 rw [Array.getElem?_modify,if_pos rfl,h];rfl
theorem other (h:aH W g T xs) {k i:Nat} (hk:g≠k) (x:Value):aH (W.setCell ⟨k,i,none⟩ x) g T xs:=by
 unfold aH at *;rw [World.setCell]
 show (W.heap.modify k _)[g]?=_
 rw [Array.getElem?_modify,if_neg (fun e=>hk e.symm),h]
theorem box {u v:Value} (h:aH W g T #[u,v]):ar W g u v:=⟨h.cell 0,h.cell 1,h.xC 0,h.xC 1,h.lt⟩
theorem aP {u v x y:Value} (h:aH W g T #[u,v,x,y]):iF W g u v x y:=by
 refine ⟨h.cell 0,h.cell 1,h.cell 2,h.cell 3,h.xC 0,h.xC 1,h.xC 2,h.xC 3,h.lt⟩
theorem set2 {u v:Value} (h:aH W g T #[u,v]) (x y:Value):aH ((W.setCell ⟨g,0,none⟩ x).setCell ⟨g,1,none⟩ y) g T #[x,y]:=(h.set 0 x).set 1 y
theorem uq {u v p q:Value} (h:aH W g T #[u,v,p,q]) (x y z t:Value):aH ((((W.setCell ⟨g,0,none⟩ x).setCell ⟨g,1,none⟩ y).setCell ⟨g,2,none⟩ z).setCell ⟨g,3,none⟩ t) g T #[x,y,z,t]:=(((h.set 0 x).set 1 y).set 2 z).set 3 t
theorem b2 {u v:Value} (h:aH W g T #[u,v]):W.cell? ⟨g,0,none⟩=some u∧W.cell? ⟨g,1,none⟩=some v:=⟨h.cell 0,h.cell 1⟩
theorem xu {u v:Value} (h:aH W g T #[u,v]):W.cell? ⟨g,0,none⟩=some u∧W.cell? ⟨g,1,none⟩=some v∧W.frozen? ⟨g,0,none⟩=false∧W.frozen? ⟨g,1,none⟩=false:=⟨h.cell 0,h.cell 1,h.xC 0,h.xC 1⟩
theorem b4 {u v x y:Value} (h:aH W g T #[u,v,x,y]):W.cell? ⟨g,0,none⟩=some u∧W.cell? ⟨g,1,none⟩=some v∧W.cell? ⟨g,2,none⟩=some x∧W.cell? ⟨g,3,none⟩=some y:=⟨h.cell 0,h.cell 1,h.cell 2,h.cell 3⟩
theorem xJ {u v x y:Value} (h:aH W g T #[u,v,x,y]):W.cell? ⟨g,0,none⟩=some u∧W.cell? ⟨g,1,none⟩=some v∧W.cell? ⟨g,2,none⟩=some x∧W.cell? ⟨g,3,none⟩=some y∧W.frozen? ⟨g,0,none⟩=false∧W.frozen? ⟨g,1,none⟩=false∧W.frozen? ⟨g,2,none⟩=false∧W.frozen? ⟨g,3,none⟩=false:=⟨h.cell 0,h.cell 1,h.cell 2,h.cell 3,h.xC 0,h.xC 1,h.xC 2,h.xC 3⟩
theorem one {u:Value} (h:aH W g T #[u]) (x:Value):aH (W.setCell ⟨g,0,none⟩ x) g T #[x]:=h.set 0 x
end aH
theorem bA (w:World) (o:Obj):Below w.heap.size w (w.alloc o):=(wK _ w).alloc (wL _) o
theorem ix (w:World) (xs1:Array Value) (T1:TypeId):∃ wc,w.alloc (.cells xs1 T1)=wc∧aH wc w.heap.size T1 xs1∧Below w.heap.size w wc:=
 ⟨_,rfl,aH.new w xs1 T1,bA w _⟩
theorem el (w:World) (xs1:Array Value) (T1:TypeId) (xs2:Array Value) (T2:TypeId):∃ wc,(w.alloc (.cells xs1 T1)).alloc (.cells xs2 T2)=wc∧aH wc w.heap.size T1 xs1∧aH wc (w.heap.size+1) T2 xs2∧Below w.heap.size w wc:=by
 obtain ⟨wc,rfl,h1,hb⟩:=ix w xs1 T1;have h2:=aH.new (w.alloc (.cells xs1 T1)) xs2 T2;rw [wI] at h2;exact ⟨_,rfl,h1.alloc _,h2,hb.alloc hb.size _⟩
theorem eJ (w:World) (xs1:Array Value) (T1:TypeId) (xs2:Array Value) (T2:TypeId) (Fn:Array Value) (T3:TypeId):∃ wc,((w.alloc (.cells xs1 T1)).alloc (.cells xs2 T2)).alloc (.cells Fn T3)=wc∧aH wc w.heap.size T1 xs1∧aH wc (w.heap.size+1) T2 xs2∧aH wc (w.heap.size+1+1) T3 Fn∧Below w.heap.size w wc:=by
 obtain ⟨wc,rfl,h1,h2,hb⟩:=el w xs1 T1 xs2 T2;have h3:=aH.new ((w.alloc (.cells xs1 T1)).alloc (.cells xs2 T2)) Fn T3;rw [wI,wI] at h3;exact ⟨_,rfl,h1.alloc _,h2.alloc _,h3,hb.alloc hb.size _⟩
theorem wF (w:World) (xs1:Array Value) (T1:TypeId) (xs2:Array Value) (T2:TypeId) (Fn:Array Value) (T3:TypeId) (Oo:Array Value) (T4:TypeId):∃ wc,(((w.alloc (.cells xs1 T1)).alloc (.cells xs2 T2)).alloc (.cells Fn T3)).alloc (.cells Oo T4)=wc∧aH wc w.heap.size T1 xs1∧aH wc (w.heap.size+1) T2 xs2∧aH wc (w.heap.size+1+1) T3 Fn∧aH wc (w.heap.size+1+1+1) T4 Oo∧Below w.heap.size w wc:=by
 obtain ⟨wc,rfl,h1,h2,h3,hb⟩:=eJ w xs1 T1 xs2 T2 Fn T3;have h4:=aH.new (((w.alloc (.cells xs1 T1)).alloc (.cells xs2 T2)).alloc (.cells Fn T3)) Oo T4;rw [wI,wI,wI] at h4;exact ⟨_,rfl,h1.alloc _,h2.alloc _,h3.alloc _,h4,hb.alloc hb.size _⟩
theorem aF.apart {W:World} {base g:Nat} {T:TypeId} {sl:Value} {xs:List Int} {ys:Array Value} (h:aF W base sl xs) (hv:aH W g T ys) (hT:T≠3):sl.ownBlock≠some g:=by
 intro e;obtain ⟨-,h⟩:=h
 rcases h with ⟨rfl,-⟩ | ⟨g',cap,cur,rfl,-,hh,-⟩
 ·simp [Value.ownBlock] at e
 simp only [Value.ownBlock,Option.some.injEq] at e;subst e;unfold aH at hv;rw [hv] at hh
 injection hh with hh
 injection hh with _ h2
 exact hT h2
theorem aF.ib {W:World} {base g i:Nat} {T:TypeId} {sl:Value} {xs:List Int} {ys:Array Value} (h:aF W base sl xs) (hv:aH W g T ys) (hT:T≠3) (x:Value):aF (W.setCell ⟨g,i,none⟩ x) base sl xs:=by
 refine World.ownsRow.kept (row:=some g) h ⟨rfl,rfl,rfl,by simp [go_sem],fun k hk hne=>?_⟩ (by
  cases hs:sl.ownBlock with
  | none=>exact Or.inl rfl
  | some k=>exact Or.inr fun e=>h.apart hv hT (by rw [hs];exact e))
 rw [World.setCell]
 show (W.heap.modify g _)[k]?=_
 rw [Array.getElem?_modify,if_neg (fun e=>hne (by rw [e]))]
theorem aF.bM {W:World} {base g:Nat} {T:TypeId} {sl:Value} {xs:List Int} {u v:Value} (h:aF W base sl xs) (hv:aH W g T #[u,v]) (hT:T≠3) (x y:Value):aF ((W.setCell ⟨g,0,none⟩ x).setCell ⟨g,1,none⟩ y) base sl xs:=
 (h.ib hv hT x).ib (hv.set 0 x) hT y
theorem aF.dF {W:World} {base g:Nat} {T:TypeId} {sl:Value} {xs:List Int} {u v p q:Value} (h:aF W base sl xs) (hv:aH W g T #[u,v,p,q]) (hT:T≠3) (x y z t:Value):aF ((((W.setCell ⟨g,0,none⟩ x).setCell ⟨g,1,none⟩ y).setCell ⟨g,2,none⟩ z).setCell ⟨g,3,none⟩ t) base sl xs:=
 (((h.ib hv hT x).ib (hv.set 0 x) hT y).ib ((hv.set 0 x).set 1 y) hT z).ib (((hv.set 0 x).set 1 y).set 2 z) hT t
theorem kO {w w':World} {base:Nat} {sl:Value} {xs:List Int} (h:Hid (aF w base sl xs)) (hb:Below w.heap.size w w'):Hid (aF w' base sl xs):=wH (aF.below h.out hb)
theorem sO {W:World} {base g:Nat} {T:TypeId} {sl:Value} {xs:List Int} {u v:Value} (h:Hid (aF W base sl xs)) (hv:aH W g T #[u,v]) (hT:T≠3) (x y:Value):Hid (aF ((W.setCell ⟨g,0,none⟩ x).setCell ⟨g,1,none⟩ y) base sl xs):=wH (h.out.bM hv hT x y)
def aJ (base:Nat) (z:Int) (v:Value) (W:World):Prop:=∃ sl,v=.agg #[.bool (decide (z<0)),sl]∧aF W base sl (Wh.a_ z.natAbs)
theorem aJ.view {base:Nat} {z:Int} {v:Value} {W:World} (h:aJ base z v W):∃ (s:Bool) (a:Option Addr) (l c:Nat),Hid (s=decide (z<0))∧v=.agg #[.bool s,.slice a l c]∧aF W base (.slice a l c) (Wh.a_ z.natAbs):=by
 obtain ⟨sl,rfl,ho⟩:=h;obtain ⟨a,c,rfl,-,-⟩:=aF.view ho;exact ⟨_,a,_,c,wH rfl,rfl,ho⟩
theorem aJ.J9 {base k:Nat} {z:Int} {sl:Value} {W:World} (h:aF W k sl (Wh.a_ z.natAbs)) (hk:base≤k):(Rg.Val.at (aJ base z)).ok (.agg #[.bool (decide (z<0)),sl]) W:=fun _ hb=>⟨sl,rfl,(aF.below h hb).base hk⟩
theorem aJ.at {base k:Nat} {z:Int} {sl:Value} {W:World} (h:ak W k sl z) (hk:base≤k):(Rg.Val.at (aJ base z)).ok (.agg #[.bool (decide (z<0)),sl]) W:=aJ.J9 h hk
def sd (base:Nat) (z r:Int) (v:Value) (W:World):Prop:=∃ sl,v=.tuple #[.agg #[.bool (decide (z<0)),sl],.int .i64 r]∧aF W base sl (Wh.a_ z.natAbs)
theorem sd.view {base:Nat} {z r:Int} {v:Value} {W:World} (h:sd base z r v W):∃ (s:Bool) (a:Option Addr) (l c:Nat),Hid (s=decide (z<0))∧v=.tuple #[.agg #[.bool s,.slice a l c],.int .i64 r]∧aF W base (.slice a l c) (Wh.a_ z.natAbs):=by
 obtain ⟨sl,rfl,ho⟩:=h;obtain ⟨a,c,rfl,-,-⟩:=aF.view ho;exact ⟨_,a,_,c,wH rfl,rfl,ho⟩
theorem sd.at {base k:Nat} {z r:Int} {sl:Value} {W:World} (h:ak W k sl z) (hk:base≤k):(Rg.Val.at (sd base z r)).ok (.tuple #[.agg #[.bool (decide (z<0)),sl],.int .i64 r]) W:=fun _ hb=>⟨sl,rfl,(aF.below h hb).base hk⟩
def b6 (base:Nat) (zs:List Int) (v:Value) (W:World):Prop:=∃ g,v=.slice (some ⟨g,0,none⟩) zs.length zs.length∧bq W g zs
inductive bi (W:World):List Int→List Value→Prop where
 | nil:bi W [] []
 | cons {z:Int} {zs:List Int} {s:Bool} {a:Option Addr} {l c b:Nat} {us:List Value} (hs:s=decide (z<0)) (ho:aF W b (.slice a l c) (Wh.a_ z.natAbs)) (h:bi W zs us):bi W (z :: zs) (.bool s :: .slice a l c :: us)
theorem bi.get {W:World}:∀ {zs:List Int} {us:List Value},bi W zs us→∀ (k:Nat) (z:Int),zs[k]?=some z→∃ (a:Option Addr) (cap:Nat),us[k*2]?=some (.bool (decide (z<0)))∧us[k*2+1]?=some (.slice a (Wh.a_ z.natAbs).length cap)∧aF W 0 (.slice a (Wh.a_ z.natAbs).length cap) (Wh.a_ z.natAbs)
 | _,_,.nil,k,z,h=>by simp at h
 | _,_,.cons (l:=l) hs ho hr,0,z,h=>by
  simp only [List.getElem?_cons_zero,Option.some.injEq] at h;subst h;subst hs;obtain ⟨a',c',e,-,-⟩:=aF.view ho
  injection e with e1 e2 e3
  subst e1 e2 e3;exact ⟨_,_,rfl,rfl,ho.base (Nat.zero_le _)⟩
 | _,_,.cons hs ho hr,k+1,z,h=>by
  obtain ⟨a,cap,h1,h2,h3⟩:=hr.get k z (by simpa using h);refine ⟨a,cap,?_,?_,h3⟩
  ·rw [show (k+1)*2=k*2+1+1 by omega];simpa using h1
  rw [show (k+1)*2+1=k*2+1+1+1 by omega];simpa using h2
theorem b6.at {base:Nat} {zs:List Int} {us:List Value} {W:World} {T:TypeId} {n:Nat} (hb:base≤W.heap.size) (h:bi W zs us) (hn:n=zs.length):(Rg.Val.at (b6 base zs)).ok (.slice (some ⟨W.heap.size,0,none⟩) n n) (W.alloc (.cells us.toArray T)):=by
 subst hn
 refine fun w' hb'=>⟨W.heap.size,rfl,fun k z hz=>?_⟩
 obtain ⟨a,cap,h1,h2,h3⟩:=h.get k z hz;have hv:=(aH.new W us.toArray T).keep hb';refine ⟨a,cap,(hv.cell _).trans (by simpa using h1),(hv.cell _).trans (by simpa using h2),aF.below (aF.alloc h3 _) hb'⟩
def u9 (base:Nat) (T:TypeId) (xs:Array Value) (v:Value) (W:World):Prop:=∃ g,base≤g∧v=.pointer (some ⟨g,0,none⟩)∧aH W g T xs
theorem u9.at {base:Nat} {T:TypeId} {xs:Array Value} {W:World} (hb:base≤W.heap.size):(Rg.Val.at (u9 base T xs)).ok (.pointer (some ⟨W.heap.size,0,none⟩)) (W.alloc (.cells xs T)):=
 fun _ hb'=>⟨_,hb,rfl,(aH.new W xs T).keep hb'⟩
theorem Rg.um {P:Program} {Q:Exit→Act→World→Prop} {ops:Array Oper} {o:Oper} {a:Act} {w:World} {x:Value} {V:Rg.Val} (hw:Region.wanted o (yielded ops a.tmps)=true) (h:(execOp a.eval o).run P w=.ok (.value x) w) (hV:V.ok x w):Rg.Does P ops Q V o a w:=by
 unfold Rg.Does;rw [if_pos hw];unfold Oper.wp;rw [h];exact ⟨x,rfl,hV,wK _ _⟩
end
end Go.Proofs.YtggekfbfechonaaGreat
