/-
  Joined texts: contracts and plain lemmas.
-/
import Derived.Test.YtggekfbfechonaaGreatV1
import Derived.Maps.AppendAt
import Derived.OwnWalk
import Derived.RegionTactic
import Derived.KernelRfl
import Derived.Deep.DeepCutAuto
import Derived.Deep.RegionWith
import Derived.BigQuiet
import Derived.Outline
import Derived.Lib.SliceRun
import Derived.Shelf.Abstract
set_option linter.unusedSimpArgs false
set_option linter.unusedVariables false
set_option maxRecDepth 100000
set_option maxHeartbeats 8000000
namespace Go.Proofs.YtggekfbfechonaaGreat
section
open Go Go.RowKit
namespace Rg
variable {P:Program} {Q:Exit→Act→World→Prop} {md:Region.Mode}
def FV (md:Region.Mode) (ops:Array Oper):Nat→Nat→Nat→Bool
 | 0,_,_=>false
 | f+1,i,j=>match ops[i]? with
  | some o=>o.after.toList.any (fun e=>Region.binds md e && e.on == j) || o.after.toList.any (fun e=>Region.binds md e && FV md ops f e.on j)
  | none=>false
def iV (md:Region.Mode) (ops:Array Oper) (n0:Nat):Bool:=decide (n0≤ops.size) && (List.range ops.size).all fun i=>decide (i<n0) || ((match ops[i]? with | some o=>o.guard.isNone | none=>true) && (List.range i).all fun j=>FV md ops 3 i j)
def aX (P:Program) (Q:Exit→Act→World→Prop):List Oper→Act→World→Prop
 | [],a,w=>Q .normal a w
 | o :: os,a,w=>o.wp P a w (fun a' w'=>aX P Q os a' w') Q
theorem jJ {ops:Array Oper} {L:Array Bool} (hdc:∀ i o,ops[i]?=some o→L.getD i false=true→∀ e ∈ o.after,Region.binds md e=true→L.getD e.on false=true):∀ (f i j:Nat) (o:Oper),ops[i]?=some o→
  (∀ e ∈ o.after,Region.binds md e=true→L.getD e.on false=true)→FV md ops f i j=true→L.getD j false=true
 | 0,_,_,_,_,_,h=>by simp [FV] at h
 | f+1,i,j,o,ho,hd,h=>by
  unfold FV at h;rw [ho] at h;simp only [Bool.or_eq_true,List.any_eq_true,Bool.and_eq_true,beq_iff_eq] at h
  rcases h with ⟨e,he,hb,rfl⟩ | ⟨e,he,hb,ha⟩
  ·exact hd e (Array.mem_toList_iff.1 he) hb
  have hde:=hd e (Array.mem_toList_iff.1 he) hb
  cases ho2:ops[e.on]? with
  | none=>
   exfalso
   cases f with
   | zero=>simp [FV] at ha
   | succ f=>unfold FV at ha;rw [ho2] at ha;exact absurd ha (by simp)
  | some o2=>exact jJ hdc f e.on j o2 ho2 (hdc e.on o2 ho2 hde) ha
theorem kV {ops:Array Oper} {n0:Nat} (ht:iV md ops n0=true):n0≤ops.size∧∀ i,i<ops.size→n0≤i→(∀ o,ops[i]?=some o→o.guard=none)∧∀ j,j<i→FV md ops 3 i j=true:=by
 rw [iV,Bool.and_eq_true] at ht;refine ⟨of_decide_eq_true ht.1,fun i hi hn=>?_⟩;have:=List.all_eq_true.1 ht.2 i (List.mem_range.2 hi);simp only [Bool.or_eq_true,decide_eq_true_eq,Bool.and_eq_true,List.all_eq_true,List.mem_range] at this
 rcases this with q | ⟨q1,q2⟩
 ·omega
 refine ⟨fun o ho=>?_,q2⟩;rw [ho] at q1;exact Option.isNone_iff_eq_none.1 q1
theorem pC {L:Array Bool} {i:Nat} (h:i<L.size):L.getD i true=L.getD i false:=by
 simp only [Array.getD_eq_getD_getElem?];rw [Array.getElem?_eq_getElem h];rfl
theorem oL {ops:Array Oper} {n0:Nat} (ht:iV md ops n0=true) (hac:∀ i o,ops[i]?=some o→∀ e ∈ o.after,Region.binds md e=true→e.on<i) :
  ∀ (fuel:Nat) (L:Array Bool) (a:Act) (w:World) (k:Nat),n0≤k→k≤ops.size→L.size=ops.size→(∀ j,j<ops.size→L.getD j false=decide (j<k))→
  ops.size - k≤fuel→aX P Q (ops.toList.drop k) a w→wpAny P md ops Q fuel L a w:=by
 obtain ⟨-,htl⟩:=kV ht
 have Ir:∀ (L:Array Bool) (k:Nat),n0≤k→(∀ j,j<ops.size→L.getD j false=decide (j<k))→L.size=ops.size→∀ i,i ∈ Region.ready md ops L→i=k∧i<ops.size:=by
  intro L k hk hL hsz i hi;obtain ⟨hun,o,ho,C_⟩:=mem_ready.1 hi;have hilt:i<ops.size:=(Array.getElem?_eq_some_iff.1 ho).1;rw [pC (by omega),hL i hilt,decide_eq_false_iff_not] at hun;refine ⟨?_,hilt⟩
  rcases Nat.lt_or_ge k i with q | q
  ·exfalso
   have hdc:∀ i o,ops[i]?=some o→L.getD i false=true→∀ e ∈ o.after,Region.binds md e=true→L.getD e.on false=true:=by
    intro i' o' ho' hl' e he hb;have hi':i'<ops.size:=(Array.getElem?_eq_some_iff.1 ho').1;rw [hL i' hi',decide_eq_true_eq] at hl';have:=hac i' o' ho' e he hb;rw [hL e.on (by omega),decide_eq_true_eq];omega
   have:=jJ hdc 3 i k o ho C_ ((htl i hilt (by omega)).2 k q);rw [hL k (by omega),decide_eq_true_eq] at this;omega
  omega
 have hend:∀ (L:Array Bool) (a:Act) (w:World) (k:Nat),n0≤k→k≤ops.size→L.size=ops.size→(∀ j,j<ops.size→L.getD j false=decide (j<k))→aX P Q (ops.toList.drop k) a w→Region.ready md ops L=[]→Q .normal a w:=by
  intro L a w k hk hk2 hsz hL h hr
  have hks:k=ops.size:=by
   rcases Nat.lt_or_ge k ops.size with q | q
   ·exfalso
    have hm:k ∈ Region.ready md ops L:=by
     refine mem_ready.2 ⟨?_,_,Array.getElem?_eq_getElem q,fun e he hb=>?_⟩
     ·rw [pC (by omega),hL k q]
      simp
     have:=hac k _ (Array.getElem?_eq_getElem q) e he hb;rw [hL e.on (by omega),decide_eq_true_eq];exact this
    rw [hr] at hm;cases hm
   omega
  subst hks;rw [List.drop_eq_nil_of_le (by simp)] at h;exact h
 intro fuel
 induction fuel with
 | zero=>
  intro L a w k hk hk2 hsz hL hf h
  have hr:Region.ready md ops L=[]:=by
   rw [List.eq_nil_iff_forall_not_mem];intro i hi;have:=Ir L k hk hL hsz i hi;omega
  exact ⟨hr,hend L a w k hk hk2 hsz hL h hr⟩
 | succ fuel ih=>
 intro L a w k hk hk2 hsz hL hf h;refine ⟨hend L a w k hk hk2 hsz hL h,fun i hi=>?_⟩;obtain ⟨rfl,hilt⟩:=Ir L k hk hL hsz i hi;have ho:ops[i]?=some ops[i]:=Array.getElem?_eq_getElem hilt
 have hdr:ops.toList.drop i=ops[i] :: ops.toList.drop (i+1):=by
  rw [List.drop_eq_getElem_cons (by simpa using hilt)];simp
 rw [hdr] at h;unfold wpOp;rw [ho]
 dsimp only
 have hg:=(htl i hilt hk).1 _ ho
 have hw:Region.wanted ops[i] (yielded ops a.tmps)=true:=by
  unfold Region.wanted;rw [hg]
 rw [if_pos hw];refine Or.inl (Oper.wp_mono ?_ h);intro a' w' h';refine ih _ a' w' (i+1) (by omega) (by omega) (by simpa using hsz) (fun j hj=>?_) (by omega) h';simp only [Array.getD_eq_getD_getElem?]
 by_cases hji:j=i
 ·subst hji
  rw [Array.getElem?_setIfInBounds_self_of_lt (by omega)];simp
 rw [Array.getElem?_setIfInBounds_ne (fun e=>hji e.symm)];have:=hL j hj;simp only [Array.getD_eq_getD_getElem?] at this;rw [this,decide_eq_decide];omega
theorem pG {l:Nat→Bool} {k:Nat}:∀ n:Nat,(∀ j,j<n→l j=decide (j<k))→left l n=n - min k n
 | 0,_=>by simp [left]
 | n+1,h=>by
  unfold left;rw [pG n (fun j hj=>h j (by omega)),h n (by omega)]
  by_cases q:n<k
  ·rw [decide_eq_true q,if_pos rfl]
   omega
  rw [decide_eq_false q,if_neg (by decide)];omega
theorem iK {l:Nat→Bool} {v:Nat→Value}:∀ (os:List Oper) (k m:Nat) (a:Act),(∀ j,k≤j→j<k+os.length→l j=decide (j<k+m))→fill l v os k a=fill (fun _=>true) v (os.take m) k a
 | [],k,m,a,_=>by rw [List.take_nil];rfl
 | o :: os,k,0,a,h=>by
  rw [List.take_zero];unfold fill
  rw [h k (xP _) (by simp),decide_eq_false (by omega),if_neg (by decide),iK os (k+1) 0 a (fun j h1 h2=>by
   rw [h j (by omega) (by simp;omega),decide_eq_decide]
   omega),List.take_zero]
  rfl
 | o :: os,k,m+1,a,h=>by
  rw [List.take_succ_cons];unfold fill;rw [h k (xP _) (by simp),decide_eq_true (by omega),if_pos rfl]
  exact iK os (k+1) m _ fun j h1 h2=>by
   rw [h j (by omega) (by simp;omega),decide_eq_decide];omega
section
variable (P) (Q) (md) (ops:Array Oper) (S:World→Prop) (V:Nat→Value→World→Prop) (a0:Act) (fr:Nat→Bool)
def qy (i:Nat) (o:Oper) (a:Act) (w:World):Prop:=
 if Region.wanted o (yielded ops a.tmps)=true then o.wp P a w (fun a' w'=>∃ v,a'=a.put o.dst v∧V i v w'∧S w'∧(∀ j u,V j u w→V j u w')∧(fr i=true→∀ j u,fr j=true→V j u w→u≠v)) Q else V i undef w∧fr i=false
def uf (i:Nat) (o:Oper):Prop:=∀ (a:Act) (w:World) (vals:Nat→Value),S w→(∀ e ∈ o.after,Region.binds md e=true→V e.on (vals e.on) w)→(∀ t ∈ o.looksAt ops,a.tmps[t]?=rd md ops a0 vals o t)→qy P Q ops S V fr i o a w
def jH:List Oper→Nat→Prop
 | [],_=>True
 | o :: os,k=>uf P Q md ops S V a0 fr k o∧jH os (k+1)
theorem jH.at {os:List Oper} {k:Nat} (h:jH P Q md ops S V a0 fr os k):∀ {i:Nat} {o:Oper},os[i]?=some o→uf P Q md ops S V a0 fr (k+i) o:=by
 induction os generalizing k with
 | nil=>intro i o hi;simp at hi
 | cons x os ih=>
 intro i o hi
 cases i with
 | zero=>
  simp only [List.getElem?_cons_zero,Option.some.injEq] at hi;subst hi;exact h.1
 | succ i=>
 have:=ih h.2 (i:=i) (o:=o) (by simpa using hi);rw [show k+(i+1)=k+1+i from by omega];exact this
def vm (L:Array Bool) (a:Act) (w:World):Prop:=
 L.size=ops.size∧S w∧(∀ i o,ops[i]?=some o→L.getD i false=true→∀ e ∈ o.after,Region.binds md e=true→L.getD e.on false=true)∧
 ∃ vals:Nat→Value,a=fill (fun j=>L.getD j false) vals ops.toList 0 a0∧(∀ i,i<ops.size→L.getD i false=true→V i (vals i) w)∧
  ∀ i j,i<ops.size→j<ops.size→L.getD i false=true→L.getD j false=true→i≠j→fr i=true→fr j=true→vals i≠vals j
end
theorem qg {ops:Array Oper} {S:World→Prop} {V:Nat→Value→World→Prop} {a0:Act} {n0:Nat} {fr:Nat→Bool} (hok:eP md ops a0.tmps.size=true) (ht:iV md ops n0=true)
  (hR:jH P Q md ops S V a0 fr (ops.toList.take n0) 0) (hF:∀ (vals:Nat→Value) (w:World),S w→(∀ i,i<n0→V i (vals i) w)→(∀ i j,i<n0→j<n0→i≠j→fr i=true→fr j=true→vals i≠vals j)→aX P Q (ops.toList.drop n0) (fill (fun _=>true) vals (ops.toList.take n0) 0 a0) w) :
  ∀ (fuel:Nat) (L:Array Bool) (a:Act) (w:World),left (fun j=>L.getD j false) ops.size≤fuel→(∀ i,i<ops.size→L.getD i false=true→i<n0)→vm md ops S V a0 fr L a w→wpAny P md ops Q fuel L a w:=by
 obtain ⟨hn0,hta⟩:=kV ht;rw [eP,Bool.and_eq_true,Bool.and_eq_true] at hok;obtain ⟨⟨hap,hrd⟩,hac⟩:=hok
 have A9:∀ i o,ops[i]?=some o→(∀ e ∈ o.after,Region.binds md e=true→e.on<i)∧∀ d,o.dst=some d→d<a0.tmps.size:=fun i o hi=>by
  have hlt:i<ops.size:=(Array.getElem?_eq_some_iff.1 hi).1;have:=List.all_eq_true.1 hac i (List.mem_range.2 hlt);rw [hi] at this;simp only [Bool.and_eq_true,List.all_eq_true,Bool.or_eq_true,Bool.not_eq_true',decide_eq_true_eq] at this;refine ⟨fun e he hb=>?_,fun d hd=>?_⟩
  ·rcases this.1 e (Array.mem_toList_iff.2 he) with q | q
   ·rw [hb] at q;cases q
   exact q
  have:=this.2;rw [hd] at this
  simpa using this
 have htl:∀ i,ops.toList[i]?=ops[i]?:=fun i=>Array.getElem?_toList
 have hall:∀ L:Array Bool,L.size=ops.size→Region.ready md ops L=[]→∀ i,i<ops.size→L.getD i false=true:=by
  intro L hL hr i
  induction i using Nat.strongRecOn with
  | ind i ih=>
  intro hi
  cases hl:L.getD i false
  ·exfalso
   have hm:i ∈ Region.ready md ops L:=by
    unfold Region.ready;rw [List.mem_filter];refine ⟨List.mem_range.2 hi,?_⟩
    have hg:L.getD i true=false:=by
     rw [Array.getD_eq_getD_getElem?,Array.getElem?_eq_getElem (by omega)] at hl ⊢;exact hl
    rw [hg,Array.getElem?_eq_getElem hi];simp only [Bool.not_false,Bool.true_and,Option.map_some,Option.getD_some];rw [Array.all_eq_true_iff_forall_mem];intro e he
    cases hb:Region.binds md e
    ·rfl
    have hlt:=(A9 i _ (Array.getElem?_eq_getElem hi)).1 e he hb;simp [ih e.on hlt (by omega)]
   rw [hr] at hm;cases hm
  rfl
 have hdone:∀ (fuel:Nat) (L:Array Bool) (a:Act) (w:World),left (fun j=>L.getD j false) ops.size≤fuel→(∀ i,i<ops.size→L.getD i false=true→i<n0)→vm md ops S V a0 fr L a w→(∀ j,j<n0→L.getD j false=true)→wpAny P md ops Q fuel L a w:=by
  rintro fuel L a w hl hb ⟨hL,hS,hdc,vals,rfl,hv,hfr⟩ hj
  have Mn:∀ j,j<ops.size→L.getD j false=decide (j<n0):=fun j hjs=>by
   by_cases q:j<n0
   ·rw [hj j q,decide_eq_true q]
   rw [decide_eq_false q]
   cases hc:L.getD j false
   ·rfl
   exact absurd (hb j hjs hc) q
  rw [pG (k:=n0) ops.size Mn] at hl;refine oL ht (fun i o hi=>(A9 i o hi).1) fuel L _ w n0 (xP _) hn0 hL Mn (by omega) ?_;rw [iK (l:=fun j=>L.getD j false) (m:=n0) ops.toList 0 a0 (fun j _ h2=>by rw [Nat.zero_add];exact Mn j (by simpa using h2))]
  exact hF vals w hS (fun i hi=>hv i (by omega) (hj i hi)) fun i j hi hj' hne=>hfr i j (by omega) (by omega) (hj i hi) (hj j hj') hne
 intro fuel
 induction fuel with
 | zero=>
  intro L a w hl hb hI;have hz:=fv _ (Nat.le_zero.1 hl);exact hdone 0 L a w hl hb hI (fun j hj=>hz j (by omega))
 | succ fuel ih=>
 intro L a w hl hb hI
 by_cases hj:∀ j,j<n0→L.getD j false=true
 ·exact hdone _ L a w hl hb hI hj
 refine ⟨fun hr=>absurd (fun j hjn=>hall L hI.1 hr j (by omega)) hj,fun i hi=>?_⟩;obtain ⟨hL,hS,hdc,vals,rfl,hv,hfr⟩:=hI;obtain ⟨hun,o,ho,C_⟩:=mem_ready.1 hi;have hilt:i<ops.size:=(Array.getElem?_eq_some_iff.1 ho).1
 have hin:i<n0:=by
  rcases Nat.lt_or_ge i n0 with q | q
  ·exact q
  exact absurd (fun j hjn=>jJ hdc 3 i j o ho C_ ((hta i hilt q).2 j (by omega))) hj
 have hun':L.getD i false=false:=by
  simp only [Array.getD_eq_getD_getElem?] at hun ⊢;rw [Array.getElem?_eq_getElem (by omega)] at hun ⊢;exact hun
 have hq:=jH.at P Q md ops S V a0 fr hR (i:=i) (o:=o) (by rw [List.getElem?_take_of_lt hin,htl];exact ho);rw [Nat.zero_add] at hq
 have hst:=hq (fill (fun j=>L.getD j false) vals ops.toList 0 a0) w vals hS
  (fun e he hb=>hv e.on (by have:=(A9 i o ho).1 e he hb;omega) (C_ e he hb))
  (fun t ht=>by
   unfold rd
   have hr1:gO md ops i o t=true:=by
    have:=List.all_eq_true.1 hrd i (List.mem_range.2 hilt);rw [ho] at this;exact List.all_eq_true.1 this t ht
   cases hf:o.after.toList.find? (fun e=>Region.binds md e && ((ops[e.on]?).bind (·.dst)) == some t) with
   | some e=>
    have h1:=List.find?_some hf;have h2:=List.mem_of_find?_eq_some hf;rw [Bool.and_eq_true,beq_iff_eq] at h1;obtain ⟨x,hx,hxd⟩:=Option.bind_eq_some_iff.1 h1.2;have h3:=C_ e (Array.mem_toList_iff.1 h2) h1.1;have:=ix (l:=fun j=>L.getD j false) (v:=vals) ops.toList 0 e.on x a0 hap (by rw [htl];exact hx) (by simpa using h3) hxd ((A9 e.on x hx).2 t hxd);rw [Nat.zero_add] at this;exact this
   | none=>
   refine eJ ops.toList 0 a0 fun j x hx hlj hxd=>?_
   rw [Nat.zero_add] at hlj;rw [htl] at hx;have hjlt:j<ops.size:=(Array.getElem?_eq_some_iff.1 hx).1;rw [gO,Bool.or_eq_true] at hr1
   rcases hr1 with q | q
   ·obtain ⟨e,he,hp⟩:=List.any_eq_true.1 q
    have:=List.find?_eq_none.1 hf e he;exact this hp
   have:=List.all_eq_true.1 q j (List.mem_range.2 hjlt);rw [hx] at this;simp only [Bool.or_eq_true,bne_iff_ne,ne_eq,beq_iff_eq,List.any_eq_true,Bool.and_eq_true] at this
   rcases this with (q1 | q1) | ⟨e,he,hb,hon⟩
   ·exact q1 hxd
   ·subst q1
    rw [hun'] at hlj;cases hlj
   have:=hdc j x hx hlj e (Array.mem_toList_iff.1 he) hb;rw [hon,hun'] at this
   cases this)
 have hnext:∀ (v:Value) (w':World),V i v w'→S w'→(∀ j u,V j u w→V j u w')→(fr i=true→∀ j u,fr j=true→V j u w→u≠v)→wpAny P md ops Q fuel (L.setIfInBounds i true) ((fill (fun j=>L.getD j false) vals ops.toList 0 a0).put o.dst v) w':=by
  intro v w' h1 h2 h3 h4
  have e1:∀ j,(L.setIfInBounds i true).getD j false=if j=i then true else L.getD j false:=fun j=>by
   simp only [Array.getD_eq_getD_getElem?]
   by_cases hji:j=i
   ·subst hji
    rw [Array.getElem?_setIfInBounds_self_of_lt (by omega)];simp
   rw [Array.getElem?_setIfInBounds_ne (fun e=>hji e.symm),if_neg hji]
  refine ih _ _ _ ?_ (fun j hjs hlj=>by rw [e1] at hlj;split at hlj <;> first | omega | exact hb j hjs hlj) ⟨by simpa using hL,h2,?_,fun j=>if j=i then v else vals j,?_,?_,?_⟩
  ·have:=gw (l:=fun j=>L.getD j false) (l':=fun j=>(L.setIfInBounds i true).getD j false) hun' (by rw [e1,if_pos rfl]) (fun j hj=>by rw [e1,if_neg hj]) ops.size hilt
   omega
  ·intro j x hx hlj e he hb
   rw [e1] at hlj ⊢
   split
   ·rfl
   split at hlj
   ·rename_i hji
    subst hji;rw [ho] at hx;cases hx
    exact C_ e he hb
   exact hdc j x hx hlj e he hb
  ·rw [gi ops.toList 0 i o a0 hap (by rw [htl];exact ho) (by simpa using hun')]
   rw [Nat.zero_add];exact cI _ _ _ (fun j _ _=>(e1 j).symm) (fun _ _ _=>rfl)
  ·intro j hj hlj
   rw [e1] at hlj
   show V j (if j=i then v else vals j) w'
   split
   ·rename_i hji
    rw [hji];exact h1
   rename_i hji
   rw [if_neg hji] at hlj;exact h3 _ _ (hv j hj hlj)
  intro j k hj hk hlj hlk hne fj fk;rw [e1] at hlj hlk
  show (if j=i then v else vals j)≠(if k=i then v else vals k)
  split at hlj
  ·rename_i hji
   subst hji;rw [if_pos rfl,if_neg (fun e=>hne e.symm)];rw [if_neg (fun e=>hne e.symm)] at hlk
   exact fun e=>h4 fj k (vals k) fk (hv k hk hlk) e.symm
  rename_i hji
  rw [if_neg hji]
  split at hlk
  ·rename_i hki
   rw [if_pos hki];subst hki;exact h4 fk j (vals j) fj (hv j hj hlj)
  rename_i hki
  rw [if_neg hki];exact hfr j k hj hk hlj hlk hne fj fk
 unfold wpOp;rw [ho];unfold qy at hst
 dsimp only
 split at hst
 ·rename_i hw
  rw [if_pos hw];refine Or.inl (Oper.wp_mono ?_ hst);rintro a' w' ⟨v,rfl,h1,h2,h3,h4⟩;exact hnext v w' h1 h2 h3 h4
 rename_i hw
 rw [if_neg hw]
 exact hnext undef w hst.1 hS (fun _ _ h=>h) fun e=>by rw [hst.2] at e;cases e
theorem uD {id:Nat} {ops:Array Oper} {a0:Act} {w:World} {n0:Nat} (fr:Nat→Bool) (S:World→Prop) (V:Nat→Value→World→Prop) (hm:P.follows .mixedOrders=true) (hok:eP .any ops a0.tmps.size=true) (ht:iV .any ops n0=true)
  (hS:S { w with drawn:=w.drawn+1 }) (hR:jH P Q .any ops S V a0 fr (ops.toList.take n0) 0)
  (hF:∀ (vals:Nat→Value) (w:World),S w→(∀ i,i<n0→V i (vals i) w)→(∀ i j,i<n0→j<n0→i≠j→fr i=true→fr j=true→vals i≠vals j)→aX P Q (ops.toList.drop n0) (fill (fun _=>true) vals (ops.toList.take n0) 0 a0) w):(Code.region id ops true).wp P Q a0 w:=by
 have rep:∀ j,(Array.replicate ops.size false).getD j false=false:=fun j=>by
  rw [Array.getD_eq_getD_getElem?,Array.getElem?_replicate]
  split <;> rfl
 refine wp_region_any hm (qg hok ht hR hF _ _ _ _ ?_ (fun i _ hl=>by rw [rep] at hl;cases hl) ⟨by simp,hS,?_,fun _=>undef,?_,?_,?_⟩)
 ·have:∀ (l:Nat→Bool) n,left l n≤n:=fun l n=>by
   induction n with
   | zero=>exact xP _
   | succ n ih=>unfold left;split <;> omega
  exact this _ _
 ·intro i o hi hl
  rw [rep] at hl;cases hl
 ·have:∀ (v:Nat→Value) (os:List Oper) (k:Nat) (a:Act),fill (fun _=>false) v os k a=a:=fun v os=>by
   induction os with
   | nil=>intro k a;rfl
   | cons x os ih=>intro k a;unfold fill;simp [ih]
  refine (this _ ops.toList 0 a0).symm.trans (cI _ _ _ (fun j _ hj=>(rep j).symm) (fun _ _ _=>rfl))
 ·intro i hi hl
  rw [rep] at hl;cases hl
 intro i j _ _ hl;rw [rep] at hl;cases hl
def oV (P:Program) (ops:Array Oper) (Q:Exit→Act→World→Prop) (a0:Act) (T:List Val) (w1:World) (i:Nat) (o:Oper):Prop:=
 match zT T i with
 | .new B Ty xs=>∀ (a:Act) (w:World),Below w1.heap.size w1 w→(∀ t ∈ o.looksAt ops,pl ops a0 T o a w t)→B≤w.heap.size∧Region.wanted o (yielded ops a.tmps)=true∧(execOp a.eval o).run P w=.ok (.value (.pointer (some ⟨w.heap.size,0,none⟩))) (w.alloc (.cells xs Ty))
 | V=>∀ (a:Act) (w:World),Below w1.heap.size w1 w→(∀ t ∈ o.looksAt ops,pl ops a0 T o a w t)→Does P ops Q V o a w
def Val.kD:Val→Bool
 | .new _ _ _=>true
 | _=>false
def nX (P:Program) (ops:Array Oper) (Q:Exit→Act→World→Prop) (a0:Act) (T:List Val) (w1:World) (n0:Nat):List Oper→Nat→Prop
 | [],_=>True
 | o :: os,k=>(k<n0→oV P ops Q a0 T w1 k o)∧nX P ops Q a0 T w1 n0 os (k+1)
theorem uE {ops:Array Oper} {a0:Act} {T:List Val} {w1:World} {k:Nat} {o:Oper} (h:oV P ops Q a0 T w1 k o):uf P Q .any ops (fun w=>Below w1.heap.size w1 w) (fun i v w=>(zT T i).ok v w) a0 (fun i=>(zT T i).kD) k o:=by
 intro a w vals hS hv hr
 have hl:∀ t ∈ o.looksAt ops,pl ops a0 T o a w t:=fun t ht=>by
  have:=hr t ht;unfold rd at this;unfold pl
  split
  ·rename_i e he
   rw [he] at this;have h2:=List.find?_some he;rw [Bool.and_eq_true] at h2;exact ⟨_,this,hv e (Array.mem_toList_iff.1 (List.mem_of_find?_eq_some he)) h2.1⟩
  rename_i he
  rw [he] at this;exact this
 unfold qy
 dsimp only
 by_cases hn:(zT T k).kD=true
 ·cases hT:zT T k with
  | new B Ty xs=>
   unfold oV at h;rw [hT] at h;obtain ⟨h0,h1,h2⟩:=h a w hS hl;rw [if_pos h1];unfold Oper.wp;rw [h2];refine ⟨_,rfl,⟨w.heap.size,h0,rfl,?_⟩,hS.trans (((xO _ _).alloc (xP _) _).mono hS.size),fun j u hu=>Val.keep ((xO _ _).alloc (xP _) _) _ _ hu,fun _ j u hj hu=>?_⟩
   ·show (w.heap.push _)[w.heap.size]?=_
    simp
   cases hTj:zT T j with
   | new B' Ty' xs'=>
    rw [hTj] at hu;obtain ⟨g,-,rfl,hg⟩:=hu;intro e;have hlt:=(Array.getElem?_eq_some_iff.1 hg).1
    injection e with e
    injection e with e
    injection e with e
    omega
   | _=>rw [hTj] at hj;cases hj
  | _=>rw [hT] at hn;cases hn
 have h1:Does P ops Q (zT T k) o a w:=by
  unfold oV at h
  split at h
  ·rename_i hT
   rw [hT] at hn;exact absurd rfl hn
  exact h a w hS hl
 unfold Does at h1
 split
 ·rename_i hw
  rw [if_pos hw] at h1;refine Oper.wp_mono ?_ h1;rintro a' w' ⟨v,e1,e2,e3⟩;exact ⟨v,e1,e2,d_ hS e3,fun j u hu=>Val.keep e3 _ _ hu,fun e=>absurd e hn⟩
 rename_i hw
 rw [if_neg hw] at h1;exact ⟨h1,by simpa using hn⟩
theorem kN {ops:Array Oper} {a0:Act} {T:List Val} {w1:World} {n0:Nat}:∀ (os:List Oper) (k m:Nat),k+m=n0→nX P ops Q a0 T w1 n0 os k→jH P Q .any ops (fun w=>Below w1.heap.size w1 w) (fun i v w=>(zT T i).ok v w) a0 (fun i=>(zT T i).kD) (os.take m) k
 | [],_,m,_,_=>by rw [List.take_nil];trivial
 | o :: os,k,0,_,_=>by rw [List.take_zero];trivial
 | o :: os,k,m+1,h,hr=>by rw [List.take_succ_cons];exact ⟨uE (hr.1 (by omega)),kN os (k+1) m (by omega) hr.2⟩
theorem bS {id:Nat} {ops:Array Oper} {a0:Act} {w:World} (n0:Nat) (T:List Val) (hm:P.follows .mixedOrders=true) (hok:eP .any ops a0.tmps.size=true) (ht:iV .any ops n0=true)
  (hR:nX P ops Q a0 T w n0 ops.toList 0)
  (hF:∀ (vals:Nat→Value) (w':World),Below w.heap.size w w'→(∀ i,i<n0→(zT T i).ok (vals i) w')→(∀ i j,i<n0→j<n0→i≠j→(zT T i).kD=true→(zT T j).kD=true→vals i≠vals j)→aX P Q (ops.toList.drop n0) (fill (fun _=>true) vals (ops.toList.take n0) 0 a0) w'):(Code.region id ops true).wp P Q a0 w:=
 uD (fun i=>(zT T i).kD) (fun w'=>Below w.heap.size w w') (fun i v w'=>(zT T i).ok v w') hm hok ht ((xO _ w).drew) (kN _ 0 n0 (Nat.zero_add _) hR) hF
theorem ah {p:Value→World→Prop} {v:Value} {w:World} (h:(Val.at p).ok v w):p v w:=h w (xO _ _)
end Rg
namespace Rg
variable {P:Program} {Q:Exit→Act→World→Prop}
def Val.pure:Val→Bool
 | .is _=>true
 | .num _=>true
 | .such _=>true
 | _=>false
theorem Val.da {V:Val} (h:V.pure=true) {u:Value} {w w':World} (hu:V.ok u w):V.ok u w':=by
 cases V with
 | is _=>exact hu
 | num _=>exact hu
 | such _=>exact hu
 | _=>cases h
def qp (P:Program) (ops:Array Oper) (Q:Exit→Act→World→Prop) (a0:Act) (T:List Val) (J:World→Prop) (k0:Nat):List Oper→Nat→Prop
 | [],_=>True
 | o
   :: os,k=>(∀ (a:Act) (w:World),J w→(∀ t ∈ o.looksAt ops,pl ops a0 T o a w t)→
   if k=k0 then Region.wanted o (yielded ops a.tmps)=true∧o.wp P a w (fun a' w'=>(∃ v,a'=a.put o.dst v)∧J w'∧∀ v,(zT T k).ok v w') Q else Does P ops Q (zT T k) o a w)∧qp P ops Q a0 T J k0 os (k+1)
theorem sd {ops:Array Oper} {a0:Act} {T:List Val} {J:World→Prop} {k0:Nat} (hJ:∀ w w',J w→Below w.heap.size w w'→J w') (hp:∀ j,j≠k0→(zT T j).pure=true):∀ (os:List Oper) (k:Nat),qp P ops Q a0 T J k0 os k→nZ P Q .any ops J (fun i v w=>(zT T i).ok v w) a0 os k
 | [],_,_=>trivial
 | o :: os,k,h=>by
  refine ⟨fun a w vals hS hv hr=>?_,sd hJ hp os (k+1) h.2⟩
  have h1:=h.1 a w hS (fun t ht=>by
   have:=hr t ht;unfold rd at this;unfold pl
   split
   ·rename_i e he
    rw [he] at this;have h2:=List.find?_some he;rw [Bool.and_eq_true] at h2;exact ⟨_,this,hv e (Array.mem_toList_iff.1 (List.mem_of_find?_eq_some he)) h2.1⟩
   rename_i he
   rw [he] at this
   exact this)
  unfold uh
  split at h1
  ·rename_i hk
   rw [if_pos h1.1];refine Oper.wp_mono ?_ h1.2;rintro a' w' ⟨⟨v,e⟩,h2,h3⟩;refine ⟨v,e,h3 v,h2,fun j u hu=>?_⟩
   by_cases hj:j=k0
   ·subst hj
    subst hk;exact h3 u
   exact Val.da (hp j hj) hu
  unfold Does at h1
  split
  ·rename_i hw
   rw [if_pos hw] at h1;refine Oper.wp_mono ?_ h1;rintro a' w' ⟨v,e1,e2,e3⟩;exact ⟨v,e1,e2,hJ _ _ hS e3,fun j u hu=>Val.keep e3 _ _ hu⟩
  rename_i hw
  rw [if_neg hw] at h1;exact h1
theorem uY {id:Nat} {ops:Array Oper} {a0:Act} {w:World} (k0:Nat) (T:List Val) (J:World→Prop) (hm:P.follows .mixedOrders=true) (hok:eP .any ops a0.tmps.size=true)
  (hJ:∀ w w',J w→Below w.heap.size w w'→J w') (hp:∀ j,j≠k0→(zT T j).pure=true) (h0:J w)
  (hR:qp P ops Q a0 T J k0 ops.toList 0)
  (hF:∀ (vals:Nat→Value) (w':World),J w'→(∀ i,i<ops.size→(zT T i).ok (vals i) w')→Q .normal (fill (fun _=>true) vals ops.toList 0 a0) w'):(Code.region id ops true).wp P Q a0 w:=
 region J (fun i v w'=>(zT T i).ok v w') hm hok (hJ _ _ h0 ((xO _ w).drew)) (sd hJ hp _ _ hR) hF
end Rg
namespace Rg
variable {P:Program} {Q:Exit→Act→World→Prop}
def upd (l:Nat→Bool) (i:Nat):Nat→Bool:=fun j=>if j=i then true else l j
def dy (v:Nat→Value) (i:Nat) (u:Value):Nat→Value:=fun j=>if j=i then u else v j
def kY (md:Region.Mode) (ops:Array Oper) (l:Nat→Bool):Prop:=∀ i o,ops[i]?=some o→l i=true→∀ e ∈ o.after,Region.binds md e=true→l e.on=true
section
variable (P) (Q) (md:Region.Mode) (ops:Array Oper) (I:(Nat→Bool)→(Nat→Value)→World→Prop) (a0:Act)
def ly (i:Nat) (o:Oper) (a:Act) (w:World) (l:Nat→Bool) (vals:Nat→Value):Prop:=
 if Region.wanted o (yielded ops a.tmps)=true then o.wp P a w (fun a' w'=>∃ v,a'=a.put o.dst v∧I (upd l i) (dy vals i v) w') Q else I (upd l i) (dy vals i undef) w
def wD (i:Nat) (o:Oper):Prop:=∀ (a:Act) (w:World) (l:Nat→Bool) (vals:Nat→Value),I l vals w→l i=false→kY md ops l→(∀ e ∈ o.after,Region.binds md e=true→l e.on=true)→(∀ t ∈ o.looksAt ops,a.tmps[t]?=rd md ops a0 vals o t)→ly P Q ops I i o a w l vals
def gQ:List Oper→Nat→Prop
 | [],_=>True
 | o :: os,k=>wD P Q md ops I a0 k o∧gQ os (k+1)
theorem gQ.at {os:List Oper} {k:Nat} (h:gQ P Q md ops I a0 os k):∀ {i:Nat} {o:Oper},os[i]?=some o→wD P Q md ops I a0 (k+i) o:=by
 induction os generalizing k with
 | nil=>intro i o hi;simp at hi
 | cons x os ih=>
 intro i o hi
 cases i with
 | zero=>
  simp only [List.getElem?_cons_zero,Option.some.injEq] at hi;subst hi;exact h.1
 | succ i=>
 have:=ih h.2 (i:=i) (o:=o) (by simpa using hi);rw [show k+(i+1)=k+1+i from by omega];exact this
def vy (L:Array Bool) (a:Act) (w:World):Prop:=
 L.size=ops.size∧kY md ops (fun j=>L.getD j false)∧
 ∃ vals:Nat→Value,I (fun j=>L.getD j false) vals w∧a=fill (fun j=>L.getD j false) vals ops.toList 0 a0
end
theorem uO {md:Region.Mode} {ops:Array Oper} {I:(Nat→Bool)→(Nat→Value)→World→Prop} {a0:Act} (hok:eP md ops a0.tmps.size=true)
  (hR:gQ P Q md ops I a0 ops.toList 0) (hF:∀ (l:Nat→Bool) (vals:Nat→Value) (w:World),(∀ i,i<ops.size→l i=true)→I l vals w→Q .normal (fill (fun _=>true) vals ops.toList 0 a0) w) :
  ∀ (fuel:Nat) (L:Array Bool) (a:Act) (w:World),left (fun j=>L.getD j false) ops.size≤fuel→vy md ops I a0 L a w→wpAny P md ops Q fuel L a w:=by
 rw [eP,Bool.and_eq_true,Bool.and_eq_true] at hok;obtain ⟨⟨hap,hrd⟩,hac⟩:=hok
 have A9:∀ i o,ops[i]?=some o→(∀ e ∈ o.after,Region.binds md e=true→e.on<i)∧∀ d,o.dst=some d→d<a0.tmps.size:=fun i o hi=>by
  have hlt:i<ops.size:=(Array.getElem?_eq_some_iff.1 hi).1;have:=List.all_eq_true.1 hac i (List.mem_range.2 hlt);rw [hi] at this;simp only [Bool.and_eq_true,List.all_eq_true,Bool.or_eq_true,Bool.not_eq_true',decide_eq_true_eq] at this;refine ⟨fun e he hb=>?_,fun d hd=>?_⟩
  ·rcases this.1 e (Array.mem_toList_iff.2 he) with q | q
   ·rw [hb] at q;cases q
   exact q
  have:=this.2;rw [hd] at this
  simpa using this
 have htl:∀ i,ops.toList[i]?=ops[i]?:=fun i=>Array.getElem?_toList
 have hall:∀ L:Array Bool,L.size=ops.size→Region.ready md ops L=[]→∀ i,i<ops.size→L.getD i false=true:=by
  intro L hL hr i
  induction i using Nat.strongRecOn with
  | ind i ih=>
  intro hi
  cases hl:L.getD i false
  ·exfalso
   have hm:i ∈ Region.ready md ops L:=by
    unfold Region.ready;rw [List.mem_filter];refine ⟨List.mem_range.2 hi,?_⟩
    have hg:L.getD i true=false:=by
     rw [Array.getD_eq_getD_getElem?,Array.getElem?_eq_getElem (by omega)] at hl ⊢;exact hl
    rw [hg,Array.getElem?_eq_getElem hi];simp only [Bool.not_false,Bool.true_and,Option.map_some,Option.getD_some];rw [Array.all_eq_true_iff_forall_mem];intro e he
    cases hb:Region.binds md e
    ·rfl
    have hlt:=(A9 i _ (Array.getElem?_eq_getElem hi)).1 e he hb;simp [ih e.on hlt (by omega)]
   rw [hr] at hm;cases hm
  rfl
 have hfin:∀ (L:Array Bool) (a:Act) (w:World),vy md ops I a0 L a w→Region.ready md ops L=[]→Q .normal a w:=by
  rintro L a w ⟨hL,-,vals,hS,rfl⟩ hr;have h:=hall L hL hr;rw [cI (l':=fun _=>true) (v':=vals) ops.toList 0 a0 (fun j _ hj=>h j (by simpa using hj)) (fun _ _ _=>rfl)];exact hF _ vals w h hS
 intro fuel
 induction fuel with
 | zero=>
  intro L a w hl hI;have hz:=fv _ (Nat.le_zero.1 hl)
  have hr:Region.ready md ops L=[]:=by
   unfold Region.ready;rw [List.filter_eq_nil_iff];intro i hi;have hi:=List.mem_range.1 hi;have h1:=hz i hi
   have hg:L.getD i true=true:=by
    have hsz:=hI.1;simp only [Array.getD_eq_getD_getElem?] at h1 ⊢;rw [Array.getElem?_eq_getElem (by omega)] at h1 ⊢;exact h1
   rw [hg];simp
  exact ⟨hr,hfin L a w hI hr⟩
 | succ fuel ih=>
 intro L a w hl hI;refine ⟨hfin L a w hI,fun i hi=>?_⟩;obtain ⟨hL,hdc,vals,hS,rfl⟩:=hI;obtain ⟨hun,o,ho,C_⟩:=mem_ready.1 hi;have hilt:i<ops.size:=(Array.getElem?_eq_some_iff.1 ho).1
 have hun':L.getD i false=false:=by
  simp only [Array.getD_eq_getD_getElem?] at hun ⊢;rw [Array.getElem?_eq_getElem (by omega)] at hun ⊢;exact hun
 have hq:=gQ.at P Q md ops I a0 hR (i:=i) (o:=o) (by rw [htl];exact ho);rw [Nat.zero_add] at hq
 have hst:=hq (fill (fun j=>L.getD j false) vals ops.toList 0 a0) w (fun j=>L.getD j false) vals hS hun' hdc
  (fun e he hb=>C_ e he hb)
  (fun t ht=>by
   unfold rd
   have hr1:gO md ops i o t=true:=by
    have:=List.all_eq_true.1 hrd i (List.mem_range.2 hilt);rw [ho] at this;exact List.all_eq_true.1 this t ht
   cases hf:o.after.toList.find? (fun e=>Region.binds md e && ((ops[e.on]?).bind (·.dst)) == some t) with
   | some e=>
    have h1:=List.find?_some hf;have h2:=List.mem_of_find?_eq_some hf;rw [Bool.and_eq_true,beq_iff_eq] at h1;obtain ⟨x,hx,hxd⟩:=Option.bind_eq_some_iff.1 h1.2;have h3:=C_ e (Array.mem_toList_iff.1 h2) h1.1;have:=ix (l:=fun j=>L.getD j false) (v:=vals) ops.toList 0 e.on x a0 hap (by rw [htl];exact hx) (by simpa using h3) hxd ((A9 e.on x hx).2 t hxd);rw [Nat.zero_add] at this;exact this
   | none=>
   refine eJ ops.toList 0 a0 fun j x hx hlj hxd=>?_
   rw [Nat.zero_add] at hlj;rw [htl] at hx;have hjlt:j<ops.size:=(Array.getElem?_eq_some_iff.1 hx).1;rw [gO,Bool.or_eq_true] at hr1
   rcases hr1 with q | q
   ·obtain ⟨e,he,hp⟩:=List.any_eq_true.1 q
    have:=List.find?_eq_none.1 hf e he;exact this hp
   have:=List.all_eq_true.1 q j (List.mem_range.2 hjlt);rw [hx] at this;simp only [Bool.or_eq_true,bne_iff_ne,ne_eq,beq_iff_eq,List.any_eq_true,Bool.and_eq_true] at this
   rcases this with (q1 | q1) | ⟨e,he,hb,hon⟩
   ·exact q1 hxd
   ·subst q1
    rw [hun'] at hlj;cases hlj
   have:L.getD e.on false=true:=hdc j x hx hlj e (Array.mem_toList_iff.1 he) hb;rw [hon,hun'] at this
   cases this)
 have hnext:∀ (v:Value) (w':World),I (upd (fun j=>L.getD j false) i) (dy vals i v) w'→wpAny P md ops Q fuel (L.setIfInBounds i true) ((fill (fun j=>L.getD j false) vals ops.toList 0 a0).put o.dst v) w':=by
  intro v w' h2
  have e1:∀ j,(L.setIfInBounds i true).getD j false=if j=i then true else L.getD j false:=fun j=>by
   simp only [Array.getD_eq_getD_getElem?]
   by_cases hji:j=i
   ·subst hji
    rw [Array.getElem?_setIfInBounds_self_of_lt (by omega)];simp
   rw [Array.getElem?_setIfInBounds_ne (fun e=>hji e.symm),if_neg hji]
  have e2:(fun j=>(L.setIfInBounds i true).getD j false)=upd (fun j=>L.getD j false) i:=funext e1;refine ih _ _ _ ?_ ⟨by simpa using hL,?_,dy vals i v,by rw [e2];exact h2,?_⟩
  ·have:=gw (l:=fun j=>L.getD j false) (l':=fun j=>(L.setIfInBounds i true).getD j false) hun' (by rw [e1,if_pos rfl]) (fun j hj=>by rw [e1,if_neg hj]) ops.size hilt
   omega
  ·intro j x hx hlj e he hb
   show (L.setIfInBounds i true).getD e.on false=true
   replace hlj:(L.setIfInBounds i true).getD j false=true:=hlj;rw [e1] at hlj ⊢
   split
   ·rfl
   split at hlj
   ·rename_i hji
    subst hji;rw [ho] at hx;cases hx
    exact C_ e he hb
   exact hdc j x hx hlj e he hb
  rw [gi ops.toList 0 i o a0 hap (by rw [htl];exact ho) (by simpa using hun')];rw [Nat.zero_add];exact cI _ _ _ (fun j _ _=>(e1 j).symm) (fun _ _ _=>rfl)
 unfold wpOp;rw [ho];unfold ly at hst
 dsimp only
 split at hst
 ·rename_i hw
  rw [if_pos hw];refine Or.inl (Oper.wp_mono ?_ hst);rintro a' w' ⟨v,rfl,h2⟩;exact hnext v w' h2
 rename_i hw
 rw [if_neg hw];exact hnext undef w hst
theorem lS {id:Nat} {ops:Array Oper} {a0:Act} {w:World} (I:(Nat→Bool)→(Nat→Value)→World→Prop) (hm:P.follows .mixedOrders=true) (hok:eP .any ops a0.tmps.size=true)
  (hS:∀ vals,I (fun _=>false) vals { w with drawn:=w.drawn+1 }) (hR:gQ P Q .any ops I a0 ops.toList 0)
  (hF:∀ (l:Nat→Bool) (vals:Nat→Value) (w:World),(∀ i,i<ops.size→l i=true)→I l vals w→Q .normal (fill (fun _=>true) vals ops.toList 0 a0) w):(Code.region id ops true).wp P Q a0 w:=by
 have rep:∀ j,(Array.replicate ops.size false).getD j false=false:=fun j=>by
  rw [Array.getD_eq_getD_getElem?,Array.getElem?_replicate]
  split <;> rfl
 refine wp_region_any hm (uO hok hR hF _ _ _ _ ?_ ⟨by simp,?_,fun _=>undef,?_,?_⟩)
 ·have:∀ (l:Nat→Bool) n,left l n≤n:=fun l n=>by
   induction n with
   | zero=>exact xP _
   | succ n ih=>unfold left;split <;> omega
  exact this _ _
 ·intro i o hi hl
  replace hl:(Array.replicate ops.size false).getD i false=true:=hl;rw [rep] at hl;cases hl
 ·rw [show (fun j=>(Array.replicate ops.size false).getD j false)=fun _=>false from funext rep]
  exact hS _
 have:∀ (v:Nat→Value) (os:List Oper) (k:Nat) (a:Act),fill (fun _=>false) v os k a=a:=fun v os=>by
  induction os with
  | nil=>intro k a;rfl
  | cons x os ih=>intro k a;unfold fill;simp [ih]
 exact (this _ ops.toList 0 a0).symm.trans (cI _ _ _ (fun j _ hj=>(rep j).symm) (fun _ _ _=>rfl))
end Rg
namespace Rg
variable {P:Program} {Q:Exit→Act→World→Prop}
def cnt (l:Nat→Bool):List Nat→Nat
 | []=>0
 | c :: cs=>if l c=true then cnt l cs+1 else 0
def fV (ops:Array Oper) (c d:Nat):Bool:=match ops[d]? with
 | some o=>o.after.toList.any (fun e=>Region.binds .any e && e.on == c)
 | none=>false
def gY (ops:Array Oper):List Nat→Bool
 | c :: d :: cs=>fV ops c d && decide (c<d) && gY ops (d :: cs)
 | _=>true
theorem dL {ops:Array Oper} {l:Nat→Bool} {c d:Nat} (hc:kY .any ops l) (he:fV ops c d=true) (hd:l d=true):l c=true:=by
 unfold fV at he
 split at he
 ·rename_i o ho
  obtain ⟨e,h1,h2⟩:=List.any_eq_true.1 he;rw [Bool.and_eq_true,beq_iff_eq] at h2;have:=hc d o ho hd e (Array.mem_toList_iff.1 h1) h2.1;rw [h2.2] at this;exact this
 cases he
theorem gh {ops:Array Oper} {l:Nat→Bool} {c d:Nat} {o:Oper} (ho:ops[d]?=some o) (AB:∀ e ∈ o.after,Region.binds .any e=true→l e.on=true) (he:fV ops c d=true):l c=true:=by
 unfold fV at he;rw [ho] at he;obtain ⟨e,h1,h2⟩:=List.any_eq_true.1 he;rw [Bool.and_eq_true,beq_iff_eq] at h2;have:=AB e (Array.mem_toList_iff.1 h1) h2.1;rw [h2.2] at this;exact this
theorem gZ {l:Nat→Bool} {k:Nat}:∀ C:List Nat,k ∉ C→cnt (upd l k) C=cnt l C
 | [],_=>rfl
 | c :: cs,h=>by
  have h1:c≠k:=fun e=>h (by rw [e];exact List.mem_cons_self ..)
  have e:upd l k c=l c:=if_neg h1;unfold cnt;rw [e,gZ cs (fun hk=>h (List.mem_cons_of_mem _ hk))]
theorem mK {ops:Array Oper} {l:Nat→Bool} {k:Nat} (hc:kY .any ops l) (hk:l k=false) (AB:∀ c,fV ops c k=true→l c=true):∀ C:List Nat,gY ops C=true→k ∈ C→cnt l C=C.idxOf k∧cnt (upd l k) C=C.idxOf k+1
 | [],_,h=>by cases h
 | [c],_,h=>by
  rcases List.mem_cons.1 h with rfl | h
  ·have e:upd l k k=true:=if_pos rfl
   unfold cnt cnt;rw [hk,e];simp
  cases h
 | c :: d :: cs,ho,h=>by
  unfold gY at ho;rw [Bool.and_eq_true,Bool.and_eq_true,decide_eq_true_eq] at ho;obtain ⟨⟨he,hlt⟩,ho⟩:=ho
  by_cases hkc:k=c
  ·subst hkc
   have e:upd l k k=true:=if_pos rfl
   have hd:l d=false:=by
    cases hd:l d
    ·rfl
    rw [dL hc he hd] at hk;cases hk
   have e2:upd l k d=false:=(if_neg (by omega)).trans hd
   have i0:(k :: d :: cs).idxOf k=0:=by simp
   rw [i0];unfold cnt;rw [hk,e];unfold cnt;rw [e2];simp
  have hm:k ∈ d :: cs:=(List.mem_cons.1 h).resolve_left hkc;obtain ⟨h1,h2⟩:=mK hc hk AB (d :: cs) ho hm
  have hlc:l c=true:=by
   by_cases hkd:k=d
   ·subst hkd;exact AB c he
   have:l d=true:=by
    cases hd:l d
    ·exfalso
     have z:cnt l (d :: cs)=0:=by unfold cnt;rw [hd];rfl
     have:(d :: cs).idxOf k≠0:=by
      rw [List.idxOf_cons]
      have:(d == k)=false:=by rw [beq_eq_false_iff_ne];exact fun e=>hkd e.symm
      rw [this];simp
     omega
    rfl
   exact dL hc he this
  have e:upd l k c=l c:=if_neg (fun e=>hkc e.symm)
  have i0:(c :: d :: cs).idxOf k=(d :: cs).idxOf k+1:=by
   rw [List.idxOf_cons]
   have:(c == k)=false:=by rw [beq_eq_false_iff_ne];exact fun e=>hkc e.symm
   rw [this];rfl
  rw [i0];unfold cnt;rw [e,hlc,if_pos rfl,if_pos rfl,h1,h2];exact ⟨rfl,rfl⟩
end Rg
namespace Rg
variable {P:Program} {Q:Exit→Act→World→Prop}
section
variable (P) (Q) (ops:Array Oper) (a0:Act) (T:List Value) (J:Nat→(Nat→Value)→World→Prop) (C:List Nat)
def oQ (o:Oper) (a:Act) (vals:Nat→Value) (t:Nat):Prop:=
 match o.after.toList.find? (fun e=>Region.binds .any e && ((ops[e.on]?).bind (·.dst)) == some t) with
 | some e=>if e.on ∈ C then a.tmps[t]?=some (vals e.on) else a.tmps[t]?=some (T.getD e.on undef)
 | none=>a.tmps[t]?=a0.tmps[t]?
end
theorem fE {o:Oper} {a:Act} {w w2:World} {x:Value} {K:Value→World→Prop} (h:(execOp a.eval o).run P w=.ok (.value x) w2) (hK:K x w2):o.wp P a w (fun a' w'=>∃ v,a'=a.put o.dst v∧K v w') Q:=by
 unfold Oper.wp;rw [h];exact ⟨x,rfl,hK⟩
theorem wU {o:Oper} {a:Act} {w:World} {ob:Obj} {x:Value} {K:Value→World→Prop} (h:(execOp a.eval o).run P w=.ok (.value x) (w.alloc ob)) (hK:K x (w.alloc ob)):o.wp P a w (fun a' w'=>∃ v,a'=a.put o.dst v∧K v w') Q:=fE h hK
theorem gW {o:Oper} {a:Act} {w:World} {f:FuncId} {args:Array Value} {K:Value→World→Prop} (h:(execOp a.eval o).run P w=.ok (.enter f args) w) (hc:Calls P f args w fun e w'=>∃ v,e=.returned v∧K v w'):o.wp P a w (fun a' w'=>∃ v,a'=a.put o.dst v∧K v w') Q:=by
 unfold Oper.wp;rw [h];refine Calls.mono hc ?_;rintro e w' ⟨v,rfl,h1⟩;exact ⟨v,rfl,h1⟩
end Rg
namespace Rg
variable {P:Program} {Q:Exit→Act→World→Prop}
section
variable (P) (Q) (ops:Array Oper) (a0:Act) (T:List Value) (J:(Nat→Bool)→(Nat→Value)→World→Prop) (C:List Nat)
def qn (k:Nat) (o:Oper):Prop:=
 ∀ (a:Act) (w:World) (l:Nat→Bool) (vals:Nat→Value),J l vals w→l k=false→(∀ c,fV ops k c=true→l c=false)→(∀ c,fV ops c k=true→l c=true)→(∀ c d,fV ops c d=true→l d=true→l c=true)→(∀ t ∈ o.looksAt ops,oQ ops a0 T C o a vals t)→Region.wanted o (yielded ops a.tmps)=true∧
  if k ∈ C then o.wp P a w (fun a' w'=>∃ v,a'=a.put o.dst v∧J (upd l k) (dy vals k v) w') Q else (execOp a.eval o).run P w=.ok (.value (T.getD k undef)) w
def oW:List Oper→Nat→Prop
 | [],_=>True
 | o :: os,k=>qn P Q ops a0 T J C k o∧oW os (k+1)
def vw (l:Nat→Bool) (vals:Nat→Value) (w:World):Prop:=
 J l vals w∧∀ i,i ∉ C→l i=true→vals i=T.getD i undef
end
theorem sc {ops:Array Oper} {a0:Act} {T:List Value} {J:(Nat→Bool)→(Nat→Value)→World→Prop} {C:List Nat} (hJ:∀ l l' v v' w,(∀ i ∈ C,l i=l' i∧v i=v' i)→J l v w→J l' v' w) :
  ∀ (os:List Oper) (k:Nat),(∀ i,os[i]?=ops[k+i]?)→oW P Q ops a0 T J C os k→gQ P Q .any ops (vw T J C) a0 os k
 | [],_,_,_=>trivial
 | o :: os,k,hos,h=>by
  refine ⟨fun a w l vals hI hl hc AB hr=>?_,sc hJ os (k+1) (fun i=>by rw [show k+1+i=k+(i+1) by omega,←hos (i+1)];rfl) h.2⟩;obtain ⟨hB,hv⟩:=hI;have ho:ops[k]?=some o:=(hos 0).symm
  have hQ:∀ t ∈ o.looksAt ops,oQ ops a0 T C o a vals t:=fun t ht=>by
   have:=hr t ht;unfold rd at this;unfold oQ
   split
   ·rename_i e he
    rw [he] at this;have h2:=List.find?_some he;rw [Bool.and_eq_true] at h2;replace this:a.tmps[t]?=some (vals e.on):=this
    split
    ·exact this
    rename_i n1
    rw [this,hv _ n1 (AB e (Array.mem_toList_iff.1 (List.mem_of_find?_eq_some he)) h2.1)]
   rename_i he
   rw [he] at this;exact this
  have hko:∀ j,j≠k→upd l k j=l j:=fun j hj=>if_neg hj
  have h1:=h.1;unfold qn at h1
  have rest:∀ v,(k ∉ C→v=T.getD k undef)→∀ i,i ∉ C→upd l k i=true→dy vals k v i=T.getD i undef:=fun v hvk i n1 hi=>by
   by_cases hik:i=k
   ·subst hik
    have:dy vals i v i=v:=if_pos rfl;rw [this];exact hvk n1
   rw [hko i hik] at hi;have:dy vals k v i=vals i:=if_neg hik;rw [this];exact hv i n1 hi
  have hup:∀ c,fV ops k c=true→l c=false:=fun c he=>by
   cases q:l c
   ·rfl
   rw [dL hc he q] at hl;cases hl
  obtain ⟨hw,h1⟩:=h1 a w l vals hB hl hup (fun c he=>gh ho AB he) (fun c d he hd=>dL hc he hd) hQ;unfold ly;rw [if_pos hw]
  by_cases e3:k ∈ C
  ·rw [if_pos e3] at h1
   refine Oper.wp_mono ?_ h1;rintro a' w' ⟨v,e,h2⟩;exact ⟨v,e,h2,rest v (fun h=>absurd e3 h)⟩
  rw [if_neg e3] at h1;unfold Oper.wp;rw [h1];refine ⟨_,rfl,hJ l _ vals _ _ (fun i hi=>?_) hB,rest _ (fun _=>rfl)⟩
  have:i≠k:=fun e=>e3 (by rw [←e];exact hi)
  exact ⟨(hko i this).symm,(if_neg this).symm⟩
theorem xJ {id:Nat} {ops:Array Oper} {a0:Act} {w:World} (J:(Nat→Bool)→(Nat→Value)→World→Prop) (C:List Nat) (T:List Value)
  (hm:P.follows .mixedOrders=true) (hok:eP .any ops a0.tmps.size=true) (hcl:∀ c ∈ C,c<ops.size) (hJ:∀ l l' v v' w,(∀ i ∈ C,l i=l' i∧v i=v' i)→J l v w→J l' v' w)
  (h0:∀ vals,J (fun _=>false) vals { w with drawn:=w.drawn+1 })
  (hR:oW P Q ops a0 T J C ops.toList 0)
  (hF:∀ (vals:Nat→Value) (w':World),J (fun _=>true) vals w'→(∀ i,i<ops.size→i ∉ C→vals i=T.getD i undef)→Q .normal (fill (fun _=>true) vals ops.toList 0 a0) w'):(Code.region id ops true).wp P Q a0 w:=by
 refine lS (vw T J C) hm hok (fun vals=>⟨h0 vals,(fun _ _ h=>absurd h (by simp))⟩) (sc hJ ops.toList 0 (fun i=>by rw [Nat.zero_add];exact Array.getElem?_toList) hR) ?_;intro l vals w' hl hI;obtain ⟨h1,h2⟩:=hI;exact hF vals w' (hJ l _ vals vals w' (fun i hi=>⟨hl i (hcl i hi),rfl⟩) h1) (fun i hi n1=>h2 i n1 (hl i hi))
end Rg
namespace Rg
variable {P:Program} {Q:Exit→Act→World→Prop}
section
variable (P) (Q) (ops:Array Oper) (a0:Act) (T:List Value) (Base:(Nat→Bool)→World→Prop) (F:Nat→Value→World→Prop) (Rel:World→World→Prop) (C:List Nat)
def aU (k:Nat) (o:Oper):Prop:=
 ∀ (a:Act) (w:World) (l:Nat→Bool) (vals:Nat→Value),Base l w→(∀ i ∈ C,l i=true→F i (vals i) w)→l k=false→(∀ c,fV ops k c=true→l c=false)→(∀ c,fV ops c k=true→l c=true)→(∀ c d,fV ops c d=true→l d=true→l c=true)→(∀ t ∈ o.looksAt ops,oQ ops a0 T C o a vals t)→Region.wanted o (yielded ops a.tmps)=true∧
  if k ∈ C then o.wp P a w (fun a' w'=>∃ v,a'=a.put o.dst v∧Base (upd l k) w'∧F k v w'∧Rel w w') Q else (execOp a.eval o).run P w=.ok (.value (T.getD k undef)) w
def qv:List Oper→Nat→Prop
 | [],_=>True
 | o :: os,k=>aU P Q ops a0 T Base F Rel C k o∧qv os (k+1)
end
theorem pM {ops:Array Oper} {a0:Act} {T:List Value} {Base:(Nat→Bool)→World→Prop} {F:Nat→Value→World→Prop} {Rel:World→World→Prop} {C:List Nat} (hF:∀ i u w w',Rel w w'→F i u w→F i u w') :
  ∀ (os:List Oper) (k:Nat),qv P Q ops a0 T Base F Rel C os k→oW P Q ops a0 T (fun l vals w=>Base l w∧∀ i ∈ C,l i=true→F i (vals i) w) C os k
 | [],_,_=>trivial
 | o :: os,k,h=>by
  refine ⟨fun a w l vals hJ hl hu hd hc hr=>?_,pM hF os (k+1) h.2⟩;have h1:=h.1;unfold aU at h1;obtain ⟨hw,h1⟩:=h1 a w l vals hJ.1 hJ.2 hl hu hd hc hr;refine ⟨hw,?_⟩
  by_cases hk:k ∈ C
  ·rw [if_pos hk] at h1 ⊢
   refine Oper.wp_mono ?_ h1;rintro a' w' ⟨v,e,h2,h3,h4⟩;refine ⟨v,e,h2,fun i hi hli=>?_⟩
   by_cases hik:i=k
   ·subst hik
    have:dy vals i v i=v:=if_pos rfl;rw [this];exact h3
   have e1:upd l k i=l i:=if_neg hik;have e2:dy vals k v i=vals i:=if_neg hik;rw [e1] at hli;rw [e2];exact hF i _ w w' h4 (hJ.2 i hi hli)
  rw [if_neg hk] at h1 ⊢;exact h1
theorem fP {id:Nat} {ops:Array Oper} {a0:Act} {w:World} (Base:(Nat→Bool)→World→Prop) (F:Nat→Value→World→Prop) (Rel:World→World→Prop) (C:List Nat) (T:List Value)
  (hm:P.follows .mixedOrders=true) (hok:eP .any ops a0.tmps.size=true) (hcl:∀ c ∈ C,c<ops.size) (hB:∀ l l' w,(∀ i ∈ C,l i=l' i)→Base l w→Base l' w) (hF:∀ i u w w',Rel w w'→F i u w→F i u w')
  (h0:Base (fun _=>false) { w with drawn:=w.drawn+1 })
  (hR:qv P Q ops a0 T Base F Rel C ops.toList 0)
  (hQ:∀ (vals:Nat→Value) (w':World),Base (fun _=>true) w'→(∀ i ∈ C,F i (vals i) w')→(∀ i,i<ops.size→i ∉ C→vals i=T.getD i undef)→Q .normal (fill (fun _=>true) vals ops.toList 0 a0) w'):(Code.region id ops true).wp P Q a0 w:=by
 refine xJ (fun l vals w=>Base l w∧∀ i ∈ C,l i=true→F i (vals i) w) C T hm hok hcl (fun l l' v v' w h hJ=>⟨hB l l' w (fun i hi=>(h i hi).1) hJ.1,fun i hi hl=>?_⟩) (fun vals=>⟨h0,fun i _ h=>absurd h (by simp)⟩) (pM hF _ _ hR) (fun vals w' hJ hv=>hQ vals w' hJ.1 (fun i hi=>hJ.2 i hi rfl) hv);have:=h i hi;rw [←this.2];exact hJ.2 i hi (this.1.trans hl)
def zg:List (Nat × Nat)→(Nat→Bool)→Nat
 | [],_=>0
 | p :: C,l=>(bif l p.1 then p.2 else 0)+zg C l
theorem ft {C:List (Nat × Nat)} {l l':Nat→Bool} (h:∀ p ∈ C,l p.1=l' p.1):zg C l=zg C l':=by
 induction C with
 | nil=>rfl
 | cons p C ih=>
 unfold zg;rw [h p List.mem_cons_self,ih fun q hq=>h q (List.mem_cons_of_mem _ hq)]
theorem bD {C:List (Nat × Nat)} {l:Nat→Bool} {k:Nat} (h:∀ p ∈ C,p.1≠k):zg C (upd l k)=zg C l:=
 ft fun p hp=>if_neg (h p hp)
theorem fY:∀ (C:List (Nat × Nat)) (l:Nat→Bool),zg C l≤zg C fun _=>true
 | [],_=>xP _
 | p :: C,l=>by
  have:=fY C l;unfold zg
  cases l p.1 <;> simp <;> omega
theorem gL {C:List (Nat × Nat)} {l:Nat→Bool} {k c:Nat} (h:∀ p ∈ C,p.1=k→p.2=c) (hc:(C.filter fun p=>p.1 == k).length=1) (hl:l k=false):zg C (upd l k)=zg C l+c:=by
 induction C with
 | nil=>cases hc
 | cons p C ih=>
 unfold zg
 by_cases hp:p.1=k
 ·have e1:upd l k p.1=true:=by rw [hp];exact if_pos rfl
  rw [e1,hp,hl,h p List.mem_cons_self hp];rw [List.filter_cons,if_pos (by simpa using hp),List.length_cons] at hc
  have hn:∀ q ∈ C,q.1≠k:=fun q hq he=>by
   have:q ∈ C.filter fun p=>p.1 == k:=List.mem_filter.2 ⟨hq,by simpa using he⟩
   have:0<(C.filter fun p=>p.1 == k).length:=List.length_pos_of_mem this;omega
  rw [bD hn];simp only [cond_true,cond_false];omega
 have e1:upd l k p.1=l p.1:=if_neg hp;rw [e1];rw [List.filter_cons,if_neg (by simpa using hp)] at hc;rw [ih (fun q hq=>h q (List.mem_cons_of_mem _ hq)) hc];omega
end Rg
end
section
open Go.RowKit
def KB (X:List Nat) (W W':World):Prop:=∃ r ∈ X,W.grownBy W' (some r)
def qk (X:List Nat) (m:Nat) (u:Value) (W:World):Prop:=
 ∃ (b:Nat) (l:List Int),u=.slice (some ⟨b,0,none⟩) m m∧l.length=m∧b ∉ X∧∀ (j:Nat) (x:Int),l[j]?=some x→W.cell? ⟨b,j,none⟩=some (.int .i64 x)
theorem qk.keep {X:List Nat} {m:Nat} {u:Value} {W W':World} (h:qk X m u W) (hR:KB X W W'):qk X m u W':=by
 obtain ⟨b,l,e,hl,h1,hc⟩:=h;obtain ⟨r,hr,hg⟩:=hR;exact ⟨b,l,e,hl,h1,fun j x hj=>Gr.eU hg (hc j x hj) fun h=>h1 (h ▸ hr)⟩
theorem qk.new {X:List Nat} (W:World) (T:TypeId) (l:List Int) {m:Nat} (hm:l.length=m) (h1:∀ x ∈ X,x<W.heap.size):qk X m (.slice (some ⟨W.heap.size,0,none⟩) m m) (W.alloc (.cells (l.map (Value.int .i64)).toArray T)):=
 ⟨W.heap.size,l,rfl,hm,fun h=>by have:=h1 _ h;omega,be W T l⟩
theorem KB.self {X:List Nat} {r:Nat} (h:r ∈ X) (W:World):KB X W W:=⟨r,h,dE W _⟩
theorem St.drew {w W:World} {g B n K:Nat} {v:Value} (h:St w W g B v n K):St w { W with drawn:=W.drawn+1 } g B v n K:=h.keep ((xO W.heap.size W).drew)
end
section
namespace Wh
def val:List Int→Int
 | []=>0
 | x :: l=>x+10000*val l
def a_ (n:Nat):List Int:=if h:n=0 then [] else ((n % 10000:Nat):Int) :: a_ (n / 10000)
termination_by n
decreasing_by exact Nat.div_lt_self (Nat.pos_of_ne_zero h) (by decide)
def lim (x:Int):Prop:=0≤x∧x<10000
def bT (l:List Int):Prop:=∀ x ∈ l,lim x
theorem cc:a_ 0=[]:=by rw [a_];rfl
theorem fo {n:Nat} (h:n≠0):a_ n=((n % 10000:Nat):Int) :: a_ (n / 10000):=by rw [a_,dif_neg h]
theorem bU (n:Nat):val (a_ n)=n:=by
 induction n using Nat.strongRecOn with
 | ind n ih=>
 by_cases h:n=0
 ·subst h;rw [cc];rfl
 rw [fo h]
 show ((n % 10000:Nat):Int)+10000*val (a_ (n / 10000))=n
 rw [ih _ (Nat.div_lt_self (Nat.pos_of_ne_zero h) (by decide))];omega
theorem bC (n:Nat):bT (a_ n):=by
 induction n using Nat.strongRecOn with
 | ind n ih=>
 by_cases h:n=0
 ·subst h;rw [cc];intro x hx;cases hx
 rw [fo h];intro x hx
 rcases List.mem_cons.1 hx with rfl | hx
 ·unfold lim;omega
 exact ih _ (Nat.div_lt_self (Nat.pos_of_ne_zero h) (by decide)) x hx
theorem fm {n:Nat}:a_ n=[] ↔ n=0:=by
 constructor
 ·intro h
  by_cases h0:n=0
  ·exact h0
  rw [fo h0] at h;cases h
 rintro rfl;exact cc
theorem mN {x v:Nat} (hx:x<10000) (h:x≠0∨v≠0):a_ (x+10000*v)=(x:Int) :: a_ v:=by
 rw [fo (by omega),show (x+10000*v) % 10000=x by omega,show (x+10000*v) / 10000=v by omega]
def trim:List Int→List Int
 | []=>[]
 | x :: l=>match trim l with
  | []=>if x=0 then [] else [x]
  | y :: t=>x :: y :: t
theorem cn:∀ {l:List Int},bT l→0≤val l
 | [],_=>Int.le_refl _
 | x :: l,h=>by
  have h1:=cn (l:=l) fun y hy=>h y (List.mem_cons_of_mem _ hy)
  have h2:=(h x List.mem_cons_self).1
  show 0≤x+10000*val l
  omega
theorem jB:∀ {l:List Int},bT l→trim l=a_ (val l).toNat
 | [],_=>by show []=a_ (0:Int).toNat;rw [show (0:Int).toNat=0 from rfl,cc]
 | x :: l,h=>by
  have hl:bT l:=fun y hy=>h y (List.mem_cons_of_mem _ hy)
  have ih:=jB hl;have hx:=h x List.mem_cons_self;have hv:=cn hl
  obtain ⟨v,hv'⟩:∃ v:Nat,val l=v:=⟨(val l).toNat,by omega⟩
  obtain ⟨y,rfl⟩:∃ y:Nat,x=y:=⟨x.toNat,by have:=hx.1;omega⟩
  rw [hv',Int.toNat_natCast] at ih
  have hy:y<10000:=by have:=hx.2;omega
  show (match trim l with
   | []=>if (y:Int)=0 then [] else [(y:Int)]
   | z :: t=>(y:Int) :: z :: t)=a_ ((y:Int)+10000*val l).toNat
  rw [ih,hv',show ((y:Int)+10000*(v:Int)).toNat=y+10000*v by omega]
  by_cases h0:v=0
  ·subst h0
   rw [cc]
   by_cases hy0:y=0
   ·subst hy0
    rw [Nat.mul_zero,cc];rfl
   rw [mN hy (Or.inl hy0),cc,if_neg (by omega)]
  rw [mN hy (Or.inr h0),fo h0]
theorem iW:∀ l:List Int,trim (l ++ [0])=trim l
 | []=>rfl
 | x :: l=>by
  show (match trim (l ++ [0]) with
   | []=>if x=0 then [] else [x]
   | z :: t=>x :: z :: t)=_
  rw [iW l];rfl
theorem kW:∀ (l:List Int) {x:Int},x≠0→trim (l ++ [x])=l ++ [x]
 | [],x,h=>by show (if x=0 then [] else [x])=_;rw [if_neg h];rfl
 | y :: l,x,h=>by
  show (match trim (l ++ [x]) with
   | []=>if y=0 then [] else [y]
   | z :: t=>y :: z :: t)=_
  rw [kW l h]
  cases l <;> rfl
theorem rQ (n:Nat):trim (a_ n)=a_ n:=by rw [jB (bC n),bU,Int.toNat_natCast]
theorem fI:∀ a b:List Int,val (a ++ b)=val a+10000 ^ a.length*val b
 | [],b=>by show val b=0+10000 ^ 0*val b;rw [Int.pow_zero];omega
 | x :: a,b=>by
  show x+10000*val (a ++ b)=x+10000*val a+10000 ^ (a.length+1)*val b
  rw [fI a b,Int.pow_succ]
  grind
theorem pow_pos (n:Nat):(0:Int)<10000 ^ n:=Int.pow_pos (by decide)
theorem eg:∀ {l:List Int},bT l→val l<10000 ^ l.length
 | [],_=>by show (0:Int)<10000 ^ 0;rw [Int.pow_zero];decide
 | x :: l,h=>by
  have h1:=eg (l:=l) fun y hy=>h y (List.mem_cons_of_mem _ hy)
  have h2:=(h x List.mem_cons_self).2
  show x+10000*val l<10000 ^ (l.length+1)
  rw [Int.pow_succ];omega
theorem cR {a b:List Int} (h:bT a) (h':bT b):bT (a ++ b):=fun x hx=>by
 rcases List.mem_append.1 hx with q | q
 ·exact h x q
 exact h' x q
theorem eo {a:List Int} (h:bT a) (k:Nat):bT (a.take k):=fun x hx=>h x (List.mem_of_mem_take hx)
theorem iN {a:List Int} (h:bT a) (k:Nat):bT (a.drop k):=fun x hx=>h x (List.mem_of_mem_drop hx)
theorem cG {l:List Int} {k:Nat} {x:Int} (hx:l[k]?=some x):val (l.take (k+1))=val (l.take k)+10000 ^ k*x:=by
 have hk:=(List.getElem?_eq_some_iff.1 hx).1;rw [List.take_add_one,hx,fI,List.length_take,Nat.min_eq_left (Nat.le_of_lt hk)]
 show _+_*(x+10000*0)=_
 grind
theorem js {l:List Int} {k:Nat} {x:Int} (hx:l[k]?=some x):val (l.drop k)=x+10000*val (l.drop (k+1)):=by
 obtain ⟨h1,rfl⟩:=List.getElem?_eq_some_iff.1 hx;rw [List.drop_eq_getElem_cons h1];rfl
theorem dK {n k:Nat} (h:n<10000 ^ k):(a_ n).length≤k:=by
 induction k generalizing n with
 | zero=>rw [Nat.pow_zero] at h;rw [show n=0 by omega,cc];exact xP _
 | succ k ih=>
 by_cases h0:n=0
 ·subst h0;rw [cc];exact Nat.zero_le _
 rw [fo h0,List.length_cons]
 have:n / 10000<10000 ^ k:=by
  rw [Nat.pow_succ] at h;exact Nat.div_lt_of_lt_mul (by rwa [Nat.mul_comm])
 have:=ih this;omega
def nth (l:List Int) (i:Nat):Int:=(l[i]?).getD 0
theorem ci {l:List Int} {i:Nat} {x:Int} (h:l[i]?=some x):nth l i=x:=by unfold nth;rw [h];rfl
theorem ch {l:List Int} {i:Nat} (h:l.length≤i):nth l i=0:=by unfold nth;rw [List.getElem?_eq_none h];rfl
theorem b7 (l:List Int) (k:Nat):val (l.take (k+1))=val (l.take k)+10000 ^ k*nth l k:=by
 by_cases h:k<l.length
 ·have hx:l[k]?=some l[k]:=List.getElem?_eq_getElem h
  rw [cG hx,ci hx]
 rw [ch (by omega),List.take_of_length_le (by omega),List.take_of_length_le (by omega)]
 grind
theorem i7 {l:List Int} (h:bT l) (i:Nat):lim (nth l i):=by
 unfold nth
 cases hx:l[i]? with
 | none=>exact ⟨Int.le_refl _,by decide⟩
 | some x=>exact h x (List.mem_of_getElem? hx)
end Wh
namespace Wh
structure es (a b:List Int) (s:Int) (i:Nat) (o:List Int) (c:Int):Prop where
 eq:val o+10000 ^ i*c=val (a.take i)+s*val (b.take i)
 len:o.length=i
 ls:bT o
 c1:s=1→0≤c∧c≤1
 c2:s=-1→-1≤c∧c≤0
theorem es.start (a b:List Int) (s:Int):es a b s 0 [] 0 where
 eq:=by simp [val]
 len:=rfl
 ls:=fun x hx=>by cases hx
 c1:=fun _=>by omega
 c2:=fun _=>by omega
theorem nP (o:List Int) (x:Int):val (o ++ [x])=val o+10000 ^ o.length*x:=by
 rw [fI]
 show _+_*(x+10000*0)=_
 grind
theorem es.step {a b o:List Int} {s c:Int} {i:Nat} (h:es a b s i o c) {x c':Int} (hx:lim x) (he:x+10000*c'=nth a i+s*nth b i+c) (h1:s=1→0≤c'∧c'≤1) (h2:s=-1→-1≤c'∧c'≤0):es a b s (i+1) (o ++ [x]) c' where
 eq:=by
  rw [nP,h.len,b7,b7,Int.pow_succ];have:=h.eq
  grind
 len:=by rw [List.length_append,h.len];rfl
 ls:=cR h.ls fun y hy=>by rw [List.mem_singleton] at hy;subst hy;exact hx
 c1:=h1
 c2:=h2
theorem es.rng {a b o:List Int} {s c:Int} {i:Nat} (h:es a b s i o c) (hs:s=1∨s=-1) (ha:bT a) (hb:bT b):-10000≤nth a i+s*nth b i+c∧nth a i+s*nth b i+c≤19999∧(s=1→0≤nth a i+s*nth b i+c)∧(s=-1→nth a i+s*nth b i+c≤9999)∧-1≤c∧c≤1:=by
 have h1:=i7 ha i;have h2:=i7 hb i;unfold lim at h1 h2
 rcases hs with rfl | rfl
 ·have:=h.c1 rfl
  refine ⟨?_,?_,fun _=>?_,fun h=>absurd h (by decide),?_,?_⟩ <;> omega
 have:=h.c2 rfl;refine ⟨?_,?_,fun h=>absurd h (by decide),fun _=>?_,?_,?_⟩ <;> omega
theorem es.all {a b o:List Int} {s c:Int} {i:Nat} (h:es a b s i o c) (ha:a.length≤i) (hb:b.length≤i):val o+10000 ^ i*c=val a+s*val b:=by
 have:=h.eq
 rwa [List.take_of_length_le ha,List.take_of_length_le hb] at this
theorem es.fin {a b o:List Int} {s c:Int} {i:Nat} (h:es a b s i o c) (hs:s=1∨s=-1) (ha:a.length≤i) (hb:b.length≤i) (h0:0≤val a+s*val b) (h1:val a+s*val b<10000 ^ i):c=0∧val o=val a+s*val b:=by
 have e:=h.all ha hb;have o1:=cn h.ls;have o2:=eg h.ls;rw [h.len] at o2;have hp:=pow_pos i
 have hc:-1≤c∧c≤1:=by
  rcases hs with rfl | rfl
  ·have:=h.c1 rfl;omega
  have:=h.c2 rfl;omega
 have:c=0:=by
  have hc':c=-1∨c=0∨c=1:=by omega
  rcases hc' with rfl | rfl | rfl
  ·rw [show (10000:Int) ^ i*-1=-(10000 ^ i) by grind] at e;omega
  ·rfl
  rw [Int.mul_one] at e;omega
 subst this;refine ⟨rfl,?_⟩;rw [Int.mul_zero] at e;omega
theorem es.carry {a b o:List Int} {s c:Int} {i:Nat} (h:es a b s i o c) (hs:s=1∨s=-1) (ha:a.length≤i) (hb:b.length≤i) (h0:0≤val a+s*val b) (hc:c≠0):c=1:=by
 have e:=h.all ha hb;have o2:=eg h.ls;rw [h.len] at o2
 have hc':c=-1∨c=1:=by
  rcases hs with rfl | rfl
  ·have:=h.c1 rfl;omega
  have:=h.c2 rfl;omega
 rcases hc' with rfl | rfl
 ·rw [show (10000:Int) ^ i*-1=-(10000 ^ i) by grind] at e;omega
 rfl
theorem iQ {m n:Nat} (h:m≤n):(10000:Int) ^ m≤10000 ^ n:=by
 obtain ⟨k,rfl⟩:=Nat.le.dest h;rw [Int.pow_add];have h1:=pow_pos m;have h2:=pow_pos k;have:=Int.mul_le_mul_of_nonneg_left (show (1:Int)≤10000 ^ k by omega) (Int.le_of_lt h1);omega
theorem sum_lt {a b:List Int} {s:Int} (hs:s=1∨s=-1) (ha:bT a) (hb:bT b) {n:Nat} (h1:a.length≤n) (h2:b.length≤n):val a+s*val b<10000 ^ (n+1):=by
 have a2:=eg ha;have b1:=cn hb;have b2:=eg hb;have p1:=iQ h1;have p2:=iQ h2;have p:=pow_pos n;rw [Int.pow_succ]
 rcases hs with rfl | rfl <;> omega
structure MInv (o0 o:List Int) (x:Int) (b:List Int) (i k:Nat) (c:Int):Prop where
 len:o.length=o0.length
 eq:val (o.take k)+10000 ^ k*c=val (o0.take k)+10000 ^ i*(x*val (b.take (k - i)))
 rest:o.drop k=o0.drop k
 ls:bT (o.take k)
 c0:0≤c∧c≤9999
theorem MInv.start {o0:List Int} (h:bT o0) (x:Int) (b:List Int) (i:Nat):MInv o0 o0 x b i i 0 where
 len:=rfl
 eq:=by rw [Nat.sub_self];simp [val]
 rest:=rfl
 ls:=eo h i
 c0:=by omega
theorem lI {x y:Int} (hx:lim x) (hy:lim y):0≤x*y∧x*y≤99980001:=by
 have h1:=Int.mul_nonneg hx.1 hy.1;have h2:x*y≤9999*y:=Int.mul_le_mul_of_nonneg_right (by have:=hx.2;omega) hy.1;have:=hy.2;omega
theorem MInv.step {o0 o b:List Int} {x c t:Int} {i k:Nat} (h:MInv o0 o x b i k c) (ho:bT o0) (hx:lim x) (hb:bT b) (hik:i≤k) (ht:o0[k]?=some t) {y:Int} (hy:y=t+c+x*nth b (k - i)):(0≤y∧y≤99999999)∧MInv o0 (o.set k (y % 10000)) x b i (k+1) (y / 10000):=by
 have hk:=(List.getElem?_eq_some_iff.1 ht).1;have htl:lim t:=ho t (List.mem_of_getElem? ht);have hm:=lI hx (i7 hb (k - i));have hc:=h.c0;unfold lim at htl
 have Js:0≤y∧y≤99999999:=by omega
 have htk:(o.set k (y % 10000)).take k=o.take k:=by
  rw [List.take_set,List.set_eq_of_length_le (by rw [List.length_take];omega)]
 have hsk:(o.set k (y % 10000))[k]?=some (y % 10000):=by
  rw [List.getElem?_set_self (by rw [h.len];exact hk)]
 refine ⟨Js,⟨by rw [List.length_set,h.len],?_,?_,?_,by omega⟩⟩
 ·rw [cG hsk,htk,cG ht,show k+1 - i=(k - i)+1 by omega,b7,Int.pow_succ]
  have e:=h.eq
  have hp:(10000:Int) ^ i*10000 ^ (k - i)=10000 ^ k:=by rw [←Int.pow_add,show i+(k - i)=k by omega]
  have hd:10000*(y / 10000)+y % 10000=y:=Int.mul_ediv_add_emod y 10000;subst hy;rw [←hp] at e ⊢;generalize (10000:Int) ^ i=P at *;generalize (10000:Int) ^ (k - i)=Q at *;generalize nth b (k - i)=n3,val (b.take (k - i))=v3,val (o0.take k)=v2,val (o.take k)=v1,(t+c+x*nth b (k - i)) % 10000=r,(t+c+x*nth b (k - i)) / 10000=q at *
  grind
 ·rw [List.drop_set_of_lt (Nat.lt_succ_self k)]
  have:=congrArg (List.drop 1) h.rest
  rwa [List.drop_drop,List.drop_drop] at this
 rw [List.take_add_one,hsk,htk]
 refine cR h.ls fun z hz=>?_
 simp only [Option.toList_some,List.mem_singleton] at hz;subst hz;unfold lim;omega
theorem MInv.bT {o0 o b:List Int} {x c:Int} {i k:Nat} (h:MInv o0 o x b i k c) (ho:bT o0):bT o:=by
 rw [←List.take_append_drop k o,h.rest];exact cR h.ls (iN ho k)
theorem MInv.fin {o0 o b:List Int} {x c:Int} {i n:Nat} (h:MInv o0 o x b i n c) (hn:o0.length=n) (hb:b.length+i≤n) {v:Int} (hv:val o0+10000 ^ i*(x*val b)=v) (hlt:v<10000 ^ n) (ho:Wh.bT o0):val o=v:=by
 have e:=h.eq;have l1:=h.len;rw [List.take_of_length_le (by omega),List.take_of_length_le (by omega),List.take_of_length_le (by omega),hv] at e;have o1:=cn (h.bT ho);have hp:=pow_pos n;have hc:=h.c0
 by_cases h0:c=0
 ·subst h0;rw [Int.mul_zero] at e;omega
 have:=Int.mul_le_mul_of_nonneg_left (show 1≤c by omega) (Int.le_of_lt hp);omega
theorem sR {a b:List Int} {i:Nat} {x o:Int} (hx:a[i]?=some x) (ho:o=val (a.take i)*val b):o+10000 ^ i*(x*val b)=val (a.take (i+1))*val b:=by
 rw [cG hx,ho]
 grind
theorem pQ {a b:List Int} (ha:bT a) (hb:bT b) {n:Nat} (h:a.length+b.length≤n):val a*val b<10000 ^ n:=by
 have a1:=cn ha;have a2:=eg ha;have b1:=cn hb;have b2:=eg hb;have p:=iQ h;rw [Int.pow_add] at p;have h1:val a*val b≤val a*10000 ^ b.length:=Int.mul_le_mul_of_nonneg_left (Int.le_of_lt b2) a1;have h2:val a*10000 ^ b.length<10000 ^ a.length*10000 ^ b.length:=Int.mul_lt_mul_of_pos_right a2 (pow_pos _);omega
structure jD (a q:List Int) (n:Int) (i:Nat) (r:Int):Prop where
 len:q.length=a.length
 eq:val (a.drop i)=n*val (q.drop i)+r
 r0:0≤r∧r<n
 ls:bT (q.drop i)
theorem jD.start {a q:List Int} {n:Int} (hn:0<n) (hl:q.length=a.length):jD a q n a.length 0 where
 len:=hl
 eq:=by rw [List.drop_length,←hl,List.drop_length];simp [val]
 r0:=by omega
 ls:=by rw [←hl,List.drop_length];intro x hx;cases hx
theorem jD.step {a q:List Int} {n r x:Int} {i:Nat} (h:jD a q n (i+1) r) (ha:bT a) (hx:a[i]?=some x) (hn:n≤1000000000000):(0≤r*10000+x∧r*10000+x≤10000000000000000)∧jD a (q.set i ((r*10000+x) / n)) n i ((r*10000+x) % n):=by
 have hi:=(List.getElem?_eq_some_iff.1 hx).1;have hxl:lim x:=ha x (List.mem_of_getElem? hx);unfold lim at hxl;have hr:=h.r0;have hq:(q.set i ((r*10000+x) / n))[i]?=some ((r*10000+x) / n):=List.getElem?_set_self (by rw [h.len];exact hi);have hd:(q.set i ((r*10000+x) / n)).drop (i+1)=q.drop (i+1):=List.drop_set_of_lt (Nat.lt_succ_self i)
 have hn0:0<n:=by omega
 have hq0:0≤(r*10000+x) / n:=Int.ediv_nonneg (by omega) (by omega);have hq1:(r*10000+x) / n<10000:=Int.ediv_lt_of_lt_mul hn0 (by omega);refine ⟨by omega,⟨by rw [List.length_set,h.len],?_,⟨Int.emod_nonneg _ (by omega),Int.emod_lt_of_pos _ hn0⟩,?_⟩⟩
 ·rw [js hx,js hq,hd,h.eq]
  have:=Int.mul_ediv_add_emod (r*10000+x) n;generalize (r*10000+x) % n=z,(r*10000+x) / n=y at *
  grind
 rw [List.drop_eq_getElem_cons (by rw [List.length_set,h.len];exact hi),hd];intro y hy
 rcases List.mem_cons.1 hy with rfl | hy
 ·rw [List.getElem_set_self];exact ⟨hq0,hq1⟩
 exact h.ls y hy
theorem jD.fin {a q:List Int} {n r:Int} (h:jD a q n 0 r):val q=val a / n∧r=val a % n∧bT q:=by
 have e:=h.eq;rw [List.drop_zero,List.drop_zero] at e;have hr:=h.r0;have hl:=h.ls;rw [List.drop_zero] at hl;refine ⟨?_,?_,hl⟩
 ·rw [e,Int.add_comm,Int.add_mul_ediv_left _ _ (by omega),Int.ediv_eq_zero_of_lt hr.1 hr.2,Int.zero_add]
 rw [e,Int.add_comm,Int.add_mul_emod_self_left,Int.emod_eq_of_lt hr.1 hr.2]
end Wh
namespace Wh
def yj (x y:Int):Int:=if x<y then -1 else if y<x then 1 else 0
theorem fe {x y:Int} (h:x<y):yj x y=-1:=if_pos h
theorem lX {x y:Int} (h:y<x):yj x y=1:=by unfold yj;rw [if_neg (by omega),if_pos h]
theorem vZ (x:Int):yj x x=0:=by unfold yj;rw [if_neg (by omega),if_neg (by omega)]
theorem nT {a:List Int} (ha:bT a) (i:Nat):val (a.take i)<10000 ^ i:=by
 have h1:=eg (eo ha i);have h2:=iQ (m:=(a.take i).length) (n:=i) (by rw [List.length_take];omega);omega
theorem oM {a b:List Int} (ha:bT a) (hb:bT b) {i:Nat} (hlt:nth a i<nth b i):∀ n,i<n→(∀ j,i<j→j<n→nth a j=nth b j)→val (a.take n)<val (b.take n)
 | 0,h,_=>absurd h (Nat.not_lt_zero _)
 | n+1,h,he=>by
  by_cases hn:i=n
  ·subst hn
   have h1:=nT ha i;have h2:=cn (eo hb i);rw [b7,b7];have h3:=Int.mul_le_mul_of_nonneg_left (show nth a i+1≤nth b i by omega) (Int.le_of_lt (pow_pos i));rw [Int.mul_add,Int.mul_one] at h3;omega
  have ih:=oM ha hb hlt n (by omega) fun j h1 h2=>he j h1 (by omega)
  rw [b7,b7,he n (by omega) (by omega)];omega
theorem tD {a b:List Int}:∀ n,(∀ j,j<n→nth a j=nth b j)→val (a.take n)=val (b.take n)
 | 0,_=>by simp [val]
 | n+1,he=>by
  rw [b7,b7,he n (by omega),tD n fun j h=>he j (by omega)]
theorem er {a:List Int} {n:Nat} (h:a.length≤n):a.take n=a:=List.take_of_length_le h
theorem rM {a b:List Int} (ha:bT a) (hb:bT b) {i n:Nat} (h1:a.length≤n) (h2:b.length≤n) (hi:i<n) (he:∀ j,i<j→j<n→nth a j=nth b j) (hlt:nth a i<nth b i):yj (val a) (val b)=-1:=by
 have:=oM ha hb hlt n hi he;rw [er h1,er h2] at this;exact fe this
theorem rL {a b:List Int} (ha:bT a) (hb:bT b) {i n:Nat} (h1:a.length≤n) (h2:b.length≤n) (hi:i<n) (he:∀ j,i<j→j<n→nth a j=nth b j) (hlt:nth b i<nth a i):yj (val a) (val b)=1:=by
 have:=oM hb ha hlt n hi fun j h1 h2=>(he j h1 h2).symm
 rw [er h1,er h2] at this;exact lX this
theorem cmp_eq {a b:List Int} {n:Nat} (h1:a.length≤n) (h2:b.length≤n) (he:∀ j,j<n→nth a j=nth b j):yj (val a) (val b)=0:=by
 have:=tD n he;rw [er h1,er h2] at this;rw [this,vZ]
theorem du {m n:Nat} (h:m≤n):(a_ m).length≤(a_ n).length:=by
 refine dK ?_;have h1:=eg (bC n);rw [bU] at h1;have h2:((10000 ^ (a_ n).length:Nat):Int)=(10000:Int) ^ (a_ n).length:=Int.natCast_pow 10000 _;generalize (10000:Int) ^ (a_ n).length=P at *;generalize 10000 ^ (a_ n).length=Q at *;omega
theorem jS {m n:Nat} (h:(a_ m).length<(a_ n).length):m<n:=by
 by_cases h':n≤m
 ·have:=du h';omega
 omega
def y9 (neg:Bool) (n:Int):Int:=if neg then -n else n
theorem pW {neg:Bool} {n:Int} (h:0≤n):decide (y9 neg n<0)=(neg && decide (n≠0)):=by
 cases neg
 ·simp [y9];omega
 simp only [y9,if_true,Bool.true_and,decide_eq_decide];omega
theorem lY {neg:Bool} {n:Int} (h:0≤n):(y9 neg n).natAbs=n.toNat:=by
 cases neg
 ·simp only [y9,Bool.false_eq_true,if_false];omega
 simp only [y9,if_true];omega
theorem nF (z:Int):y9 (decide (z<0)) z.natAbs=z:=by
 unfold y9
 by_cases h:z<0
 ·rw [if_pos (decide_eq_true h)];omega
 rw [if_neg (by simp [h])];omega
end Wh
end
section
open Go.RowKit
theorem aF.vF (w:World) (base:Nat) (hb:base≤w.heap.size):aF (w.alloc (.cells #[] 3)) base (.slice (some ⟨w.heap.size,0,none⟩) 0 0) []:=
 World.ownsRow_made w #[] 0 hb (by unfold maxLen;omega) rfl
theorem aF.lt {w:World} {base:Nat} {v:Value} {xs:List Int} (h:aF w base v xs):∀ k,v.ownBlock=some k→base≤k∧k<w.heap.size:=World.ownsRow.lt h
theorem aF.alloc {w:World} {base:Nat} {v:Value} {xs:List Int} (h:aF w base v xs) (o:Obj):aF (w.alloc o) base v xs:=World.ownsRow.alloc h o
theorem aF.forms {w:World} {base:Nat} {v:Value} {xs:List Int} (h:aF w base v xs):(v=.slice none 0 0∧xs=[])∨∃ g cap,v=.slice (some ⟨g,0,none⟩) xs.length cap∧base≤g:=by
 rcases h.2 with ⟨e,h2⟩ | ⟨g,cap',cur,e,hg,-⟩
 ·exact Or.inl ⟨e,List.eq_nil_of_length_eq_zero h2⟩
 exact Or.inr ⟨g,cap',e,hg⟩
theorem aF.cap {w:World} {base:Nat} {a:Option Addr} {n cap:Nat} {xs:List Int} (h:aF w base (.slice a n cap) xs):xs.length≤cap∧cap≤9223372036854775807:=by
 rcases h.2 with ⟨e,h2⟩ | ⟨g,cap',cur,e,-,-,h3,h4,-⟩
 ·injection e with e1 e2 e3
  exact ⟨by omega,by omega⟩
 injection e with e1 e2 e3
 unfold maxLen at h4;exact ⟨by omega,by omega⟩
theorem eV {P:Program} (w:World) (base:Nat) (t ty e:TypeId) (i:TypeInfo) (size:Nat) (ht:P.underlying t=some (.slice e)) (hi:P.info? e=some i)
  (v:Value) (n:Nat) (xs:List Value) (hown:w.ownsRow base e size v n xs) (c:Nat):(Builtin.append_ #[t,t] ty #[v,.slice none 0 c]).run P w=.ok v w:=by
 rcases hown.2 with ⟨rfl,rfl⟩ | ⟨g,cap,cur,rfl,_,_,hnc,_⟩
 ·simp [Builtin.append_,run_underlying ht,sizeOf,typeInfo,hi,Builtin.lenOf,Builtin.firstCells]
 simp [Builtin.append_,run_underlying ht,sizeOf,typeInfo,hi,Builtin.lenOf,Builtin.firstCells,hnc,storeCells]
theorem lW {w W:World} (base:Nat) (ty:TypeId) (ys xs:List Int) (v:Value) (A:Option Addr) (c:Nat)
  (hr:∀ j y,ys[j]?=some y→∃ ad,A=some ad∧w.cell? (ad.add j)=some (.int .i64 y)) (hown:aF w base v xs) (hW:Below base W w) (hB:base≤w.heap.size) (hl:xs.length+ys.length≤10000000000) :
  ∃ v' w',(Builtin.append_ #[60,60] ty #[v,.slice A ys.length c]).run Tryz.prog w=.ok v' w'∧aF w' base v' (xs ++ ys)∧Below base W w':=by
 obtain ⟨i0,hi,hz0,hz1,hz2⟩:=info_parts jZ
 cases A with
 | none=>
  have he:ys=[]:=by
   cases ys with
   | nil=>rfl
   | cons y ys=>obtain ⟨ad,h,-⟩:=hr 0 y rfl;cases h
  subst he;exact ⟨v,w,eV w base _ _ _ i0 1 Tryz.underlying60 hi _ _ _ hown c,by simpa using hown,hW⟩
 | some ad=>
 obtain ⟨v',w',h1,h2,h3,-,-⟩:=run_append_own_at (P:=Tryz.prog) w base 60 ty 3 i0 (.int .i64 0) 1 8 Tryz.underlying60 hi hz0 hz1 hz2 rfl (by decide) v xs.length (xs.map (Value.int .i64)) hown ad ys.length c (ys.map (Value.int .i64))
  (by simp) (fun j u hu=>by
   rw [List.getElem?_map] at hu
   cases hy:ys[j]? with
   | none=>rw [hy] at hu;cases hu
   | some y=>
    rw [hy] at hu;obtain ⟨ad',h1,h2⟩:=hr j y hy;obtain rfl:=Option.some.inj h1;obtain rfl:=Option.some.inj hu
    exact h2) (fun u hu=>by
   obtain ⟨y,-,rfl⟩:=List.mem_map.1 hu
   rfl) (by unfold maxLen;omega) (by omega) hB
 refine ⟨v',w',h1,?_,hW.grown h3 hB fun k hk=>(hown.lt k hk).1⟩;unfold aF;rw [List.map_append,List.length_append];exact h2
theorem mo {ops:Array Oper} {rest:List Oper} {o:Oper} {a:Act} {Q:Exit→Act→World→Prop} {w W:World} (base:Nat) (ys xs:List Int) (v:Value) (A:Option Addr) (m c:Nat) (hm:ys.length=m) (hgd:o.guard=none) (s x:Operand)
  (ho:o.op=.call { callee:=.builtin .append,args:=#[s,x],argTypes:=#[60,60] }) (hs:a.eval s=v) (hx:a.eval x=.slice A m c)
  (hr:∀ j y,ys[j]?=some y→∃ ad,A=some ad∧w.cell? (ad.add j)=some (.int .i64 y)) (hown:aF w base v xs) (hW:Below base W w) (hB:base≤w.heap.size) (hl:xs.length+ys.length≤10000000000)
  (h:∀ v' w',aF w' base v' (xs ++ ys)→Below base W w'→wpList Tryz.prog ops Q rest (a.put o.dst v') w') :
  wpList Tryz.prog ops Q (o :: rest) a w:=by
 subst hm
 refine wpList_plain hgd fun _ hK=>?_
 obtain ⟨v',w',h1,h2,h3⟩:=lW (w:=w) (W:=W) base o.type ys xs v A c hr hown hW hB hl;unfold Oper.wp execOp;simp only [ho,resolve,invoke,builtin,Sem.run_bind,Sem.run_pure,Result.andThen_ok,List.map_toArray,List.map_cons,List.map_nil,hs,hx,h1];exact hK _ _ (h v' w' h2 h3)
namespace Rw
variable {α:Type}
structure Enc (α:Type) where
 t:TypeId
 k:Nat
 cells:α→List Value
 len:∀ x,(cells x).length=k
 one:∀ x,∀ u ∈ cells x,u.oneCell'=true
 pos:0<k
theorem ej (E:Enc α):∀ xs:List α,(xs.flatMap E.cells).length=xs.length*E.k
 | []=>by simp
 | x :: xs=>by rw [List.flatMap_cons,List.length_append,ej E xs,E.len,List.length_cons,Nat.add_mul];omega
theorem flat_get (E:Enc α):∀ (xs:List α) (j i:Nat) (x:α),xs[j]?=some x→i<E.k→(xs.flatMap E.cells)[j*E.k+i]?=(E.cells x)[i]?
 | [],_,_,_,h,_=>by simp at h
 | y :: ys,0,i,x,h,hi=>by
  simp only [List.getElem?_cons_zero,Option.some.injEq] at h;subst h;rw [List.flatMap_cons,Nat.zero_mul,Nat.zero_add,List.getElem?_append_left (by rw [E.len];exact hi)]
 | y :: ys,j+1,i,x,h,hi=>by
  have ih:=flat_get E ys j i x (by simpa using h) hi;rw [List.flatMap_cons,List.getElem?_append_right (by rw [E.len,Nat.add_mul];omega),E.len];rw [←ih]
  congr 1
  rw [Nat.add_mul];omega
theorem qA (E:Enc α) (xs:List α) (n:Nat):(xs.take n).flatMap E.cells=(xs.flatMap E.cells).take (n*E.k):=by
 have e:xs.flatMap E.cells=(xs.take n).flatMap E.cells ++ (xs.drop n).flatMap E.cells:=by rw [←List.flatMap_append,List.take_append_drop]
 rcases Nat.lt_or_ge n xs.length with h | h
 ·have hl:((xs.take n).flatMap E.cells).length=n*E.k:=by rw [ej,List.length_take,Nat.min_eq_left (by omega)]
  rw [e,←hl,List.take_left]
 rw [List.take_of_length_le h,List.take_of_length_le (by rw [ej];exact Nat.mul_le_mul_right _ h)]
theorem j6 (E:Enc α) (xs:List α):∀ u ∈ xs.flatMap E.cells,u.oneCell'=true:=by
 intro u hu;obtain ⟨x,-,h⟩:=List.mem_flatMap.1 hu;exact E.one x u h
def Own (E:Enc α) (w:World) (base:Nat) (v:Value) (xs:List α):Prop:=w.ownsRow base E.t E.k v xs.length (xs.flatMap E.cells)
variable {E:Enc α} {w w':World} {base base':Nat} {v:Value} {xs:List α}
theorem Own.nil (E:Enc α) (w:World) (base:Nat):Own E w base (.slice none 0 0) ([]:List α):=World.ownsRow_nil w base _ _
theorem Own.vF (E:Enc α) (w:World) (base:Nat) (hb:base≤w.heap.size):Own E (w.alloc (.cells #[] E.t)) base (.slice (some ⟨w.heap.size,0,none⟩) 0 0) ([]:List α):=
 World.ownsRow_made w #[] 0 hb (by unfold maxLen;omega) (by simp)
theorem Own.kept {r:Option Nat} (h:Own E w base v xs) (hg:w.grownBy w' r) (hr:∀ g,r=some g→v.ownBlock≠some g):Own E w' base v xs:=by
 refine World.ownsRow.kept h hg ?_
 cases r with
 | none=>
  cases hv:v.ownBlock
  ·exact Or.inl rfl
  exact Or.inr (by simp)
 | some g=>exact Or.inr (hr g rfl)
theorem Own.below (h:Own E w base v xs) (hb:Below w.heap.size w w'):Own E w' base v xs:=h.kept (cM hb none) fun g hg=>by cases hg
theorem Own.alloc (h:Own E w base v xs) (o:Obj):Own E (w.alloc o) base v xs:=World.ownsRow.alloc h o
theorem Own.lt (h:Own E w base v xs):∀ g,v.ownBlock=some g→base≤g∧g<w.heap.size:=World.ownsRow.lt h
theorem Own.forms (h:Own E w base v xs):(v=.slice none 0 0∧xs=[])∨∃ g cap,v=.slice (some ⟨g,0,none⟩) xs.length cap∧base≤g∧g<w.heap.size∧xs.length≤cap∧cap≤9223372036854775807:=by
 rcases h.2 with ⟨e,h2⟩ | ⟨g,cap',cur,e,hg,hh,h3,h4,-⟩
 ·exact Or.inl ⟨e,List.eq_nil_of_length_eq_zero h2⟩
 exact Or.inr ⟨g,cap',e,hg,(Array.getElem?_eq_some_iff.1 hh).1,h3,by unfold maxLen at h4;omega⟩
def tL (E:Enc α) (w:World) (hi:Nat) (v:Value) (xs:List α):Prop:=
 ∃ (a:Option Addr) (cap:Nat),v=.slice a xs.length cap∧xs.length≤cap∧cap≤9223372036854775807∧
  ∀ j,j<xs.length→∃ g x,a=some ⟨g,0,none⟩∧g<hi∧Hid (xs[j]?=some x)∧∀ i u,(E.cells x)[i]?=some u→w.cell? ⟨g,j*E.k+i,none⟩=some u
theorem tL.below {hi:Nat} (h:tL E w hi v xs) (hb:Below hi w w'):tL E w' hi v xs:=by
 obtain ⟨a,cap,h1,h2,h2',h3⟩:=h;refine ⟨a,cap,h1,h2,h2',fun k hk=>?_⟩;obtain ⟨g,x,e1,e2,e3,e4⟩:=h3 k hk;exact ⟨g,x,e1,e2,e3,fun i u hu=>(hb.cell (p:=⟨g,k*E.k+i,none⟩) e2).trans (e4 i u hu)⟩
theorem Own.seen (h:Own E w base v xs):tL E w w.heap.size v xs:=by
 have hf:=h.forms;obtain ⟨h1,h2⟩:=h
 rcases h2 with ⟨rfl,hn⟩ | ⟨g,cap,cur,rfl,hg,hh,hc,hm,hs,ht⟩
 ·exact ⟨none,0,by rw [hn],by omega,by omega,fun k hk=>by omega⟩
 refine ⟨some ⟨g,0,none⟩,cap,rfl,hc,by unfold maxLen at hm;omega,fun j hj=>⟨g,xs[j],rfl,(Array.getElem?_eq_some_iff.1 hh).1,List.getElem?_eq_getElem hj,fun i u hu=>?_⟩⟩;rw [cell_of_row w g _ cur _ (0,0) hh]
 have hi:i<E.k:=by rw [←E.len xs[j]];exact (List.getElem?_eq_some_iff.1 hu).1
 have e:=flat_get E xs j i _ (List.getElem?_eq_getElem hj) hi;rw [hu,←ht,List.getElem?_take] at e
 split at e
 ·simpa using e
 cases e
def From (E:Enc α) (w:World) (A:Option Addr) (ys:List α):Prop:=∀ j u,(ys.flatMap E.cells)[j]?=some u→∃ ad,A=some ad∧w.cell? (ad.add j)=some u
theorem From.nil (E:Enc α) (w:World) (A:Option Addr):From E w A ([]:List α):=fun j u h=>by simp at h
theorem From.lit (E:Enc α) (w:World) (x:α) (H:Nat) (hH:w.heap.size=H):From E (w.alloc (.cells (E.cells x).toArray E.t)) (some ⟨H,0,none⟩) [x]:=by
 intro j u h;subst hH
 have hadd:∀ b i:Nat,(⟨b,0,none⟩:Addr).add i=⟨b,i,none⟩:=fun b i=>by unfold Addr.add;split <;> simp_all
 refine ⟨_,rfl,?_⟩;rw [hadd,World.cell?_alloc_at _ _ _ _ rfl]
 simpa using h
theorem Own.cellAt {g n cap:Nat} (hn:n=xs.length) (h:Own E w base (.slice (some ⟨g,0,none⟩) n cap) xs) (j:Nat) (u:Value) (hu:(xs.flatMap E.cells)[j]?=some u):w.cell? ⟨g,j,none⟩=some u∧w.frozen? ⟨g,j,none⟩=false:=by
 subst hn;have hj:=(List.getElem?_eq_some_iff.1 hu).1;rw [ej] at hj;exact ⟨(World.ownsRow.cellAt h j hj).trans hu,World.ownsRow.frozenAt h j⟩
theorem g5 (base g cap n:Nat) (t:TypeId) (k:Nat):∀ (l:List Value) (o:Nat) (w:World) (zs:List Value),w.ownsRow base t k (.slice (some ⟨g,0,none⟩) n cap) n zs→
  ∃ ys,(w.setCells g o l).ownsRow base t k (.slice (some ⟨g,0,none⟩) n cap) n ys∧ys.take o=zs.take o∧w.grownBy (w.setCells g o l) (some g)
 | [],o,w,zs,h=>⟨zs,h,rfl,dE _ _⟩
 | u :: l,o,w,zs,h=>by
  have h1:=World.ownsRow.stored h o u;obtain ⟨ys,k1,k2,k3⟩:=g5 base g cap n t k l (o+1) _ _ h1.1;refine ⟨ys,k1,?_,ce h1.2 k3⟩;have:=congrArg (List.take o) k2;rw [List.take_take,List.take_take,Nat.min_eq_left (by omega)] at this;rw [this,List.take_set,List.set_eq_of_length_le (by rw [List.length_take];omega)]
theorem uF {t:TypeId} {k g n cap i:Nat} {zs:List Value} (h:w.ownsRow base t k (.slice (some ⟨g,0,none⟩) n cap) n zs) (hi:i≤n):w.ownsRow base t k (.slice (some ⟨g,0,none⟩) i cap) i (zs.take (i*k)):=by
 obtain ⟨h1,h2⟩:=h;have hik:i*k≤n*k:=Nat.mul_le_mul_right _ hi
 rcases h2 with ⟨e,-⟩ | ⟨g',cap',cur,e,hg,hh,hc,hm,hs,ht⟩
 ·cases e
 injection e with e1 e2 e3
 simp only [Option.some.injEq,Addr.mk.injEq,and_true] at e1;subst e1 e3;refine ⟨by rw [List.length_take];omega,Or.inr ⟨g,cap,cur,rfl,hg,hh,by omega,hm,hs,?_⟩⟩;rw [←ht,List.take_take,Nat.min_eq_left hik]
theorem Own.cut {g n cap i:Nat} {ys:List α} (hn:n=xs.length) (h:Own E w base (.slice (some ⟨g,0,none⟩) n cap) xs) (hi:i≤n) (l:List Value) (hy:ys=xs.take i) (o:Nat) (ho:o=i*E.k) :
  Own E (w.setCells g o l) base (.slice (some ⟨g,0,none⟩) i cap) ys∧w.grownBy (w.setCells g o l) (some g):=by
 subst hn hy ho;obtain ⟨rs,k1,k2,k3⟩:=g5 base g cap xs.length E.t E.k l (i*E.k) w _ h;refine ⟨?_,k3⟩
 have hl:(xs.take i).length=i:=by rw [List.length_take];omega
 have:=uF k1 hi;rw [k2,←qA] at this;unfold Own;rw [hl];exact this
structure Fits (P:Program) (E:Enc α) (ts:TypeId):Prop where
 under:P.underlying ts=some (.slice E.t)
 info:∃ i z,P.info? E.t=some i∧i.zero=some z∧i.size=E.k∧i.bytes≤1000∧z.cells.size=E.k
theorem sn {P:Program} {ts:TypeId} (F:Fits P E ts) {W:World} (ty:TypeId) (ys:List α) (A:Option Addr) (c:Nat)
  (hr:From E w A ys) (hown:Own E w base v xs) (hW:Below base W w) (hB:base≤w.heap.size) (hl:xs.length+ys.length≤100000000000) :
  ∃ v' w',(Builtin.append_ #[ts,ts] ty #[v,.slice A ys.length c]).run P w=.ok v' w'∧Own E w' base v' (xs ++ ys)∧Below base W w':=by
 obtain ⟨i,z,hi,hz,hs,hby,hzc⟩:=F.info
 cases A with
 | none=>
  have he:ys=[]:=by
   cases ys with
   | nil=>rfl
   | cons y ys=>
   have hp:=E.pos;have hl:=E.len y;obtain ⟨ad,h,-⟩:=hr 0 ((E.cells y)[0]'(by omega)) (by rw [List.flatMap_cons,List.getElem?_append_left (by omega)];exact List.getElem?_eq_getElem _);cases h
  subst he;exact ⟨v,w,eV w base _ _ _ i E.k F.under hi _ _ _ hown c,by simpa using hown,hW⟩
 | some ad=>
 have hbb:(xs.length+ys.length)*i.bytes≤140737488355328:=Nat.le_trans (Nat.mul_le_mul hl hby) (by omega)
 obtain ⟨v',w',h1,h2,h3,-,-⟩:=run_append_own_at (P:=P) w base ts ty E.t i z E.k i.bytes F.under hi hz hs rfl hzc E.pos v xs.length (xs.flatMap E.cells) hown ad ys.length c (ys.flatMap E.cells)
  (ej E ys) (fun j u hu=>by
   obtain ⟨ad',h1,h2⟩:=hr j u hu;obtain rfl:=Option.some.inj h1
   exact h2) (j6 E ys) (by unfold maxLen;omega) hbb hB
 refine ⟨v',w',h1,?_,hW.grown h3 hB fun k hk=>(Own.lt hown k hk).1⟩;unfold Own;rw [List.flatMap_append,List.length_append];exact h2
theorem push {P:Program} {ts:TypeId} (F:Fits P E ts) {ops:Array Oper} {rest:List Oper} {o:Oper} {a:Act} {Q:Exit→Act→World→Prop} {W:World} (base:Nat) (ys xs:List α) (v:Value) (A:Option Addr) (m c:Nat) (hm:ys.length=m) (hgd:o.guard=none) (s x:Operand)
  (ho:o.op=.call { callee:=.builtin .append,args:=#[s,x],argTypes:=#[ts,ts] }) (hs:a.eval s=v) (hx:a.eval x=.slice A m c)
  (hr:From E w A ys) (hown:Own E w base v xs) (hW:Below base W w) (hB:base≤w.heap.size) (hl:xs.length+ys.length≤100000000000)
  (h:∀ v' w',Own E w' base v' (xs ++ ys)→Below base W w'→wpList P ops Q rest (a.put o.dst v') w') :
  wpList P ops Q (o :: rest) a w:=by
 subst hm
 refine wpList_plain hgd fun _ hK=>?_
 obtain ⟨v',w',h1,h2,h3⟩:=sn F (w:=w) (W:=W) (base:=base) o.type ys A c hr hown hW hB hl;unfold Oper.wp execOp;simp only [ho,resolve,invoke,builtin,Sem.run_bind,Sem.run_pure,Result.andThen_ok,List.map_toArray,List.map_cons,List.map_nil,hs,hx,h1];exact hK _ _ (h v' w' h2 h3)
end Rw
end
section
namespace M
theorem kQ {q d:Int} (hq:f8 q) (h2:2≤d) (hd:q % d=0):d=q:=by
 have hdvd:d ∣ q:=Int.dvd_of_emod_eq_zero hd;obtain ⟨c,hc⟩:=hdvd;have hq2:=hq.1
 have hc1:1≤c:=by
  rcases Int.lt_or_le c 1 with h | h
  ·have:d*c≤0:=Int.mul_nonpos_of_nonneg_of_nonpos (by omega) (by omega)
   omega
  exact h
 rcases Int.lt_or_le c 2 with h | h
 ·have:c=1:=by omega
  rw [this] at hc;omega
 exfalso
 rcases Int.lt_or_le c d with h' | h'
 ·refine hq.2 c h ?_ ?_
  ·rw [hc];exact Int.mul_le_mul_of_nonneg_right (by omega) (by omega)
  rw [hc];exact Int.mul_emod_left d c
 refine hq.2 d h2 ?_ hd;rw [hc];exact Int.mul_le_mul_of_nonneg_left h' (by omega)
theorem qQ {q x:Int} (hq:f8 q) (h:¬ x % q=0):Int.gcd q x=1:=by
 have hg:(Int.gcd q x:Int) ∣ q:=Int.gcd_dvd_left ..;have hg2:(Int.gcd q x:Int) ∣ x:=Int.gcd_dvd_right ..;have hq2:=hq.1;have hpos:0<Int.gcd q x:=Int.gcd_pos_of_ne_zero_left _ (by omega)
 rcases Nat.lt_or_ge (Int.gcd q x) 2 with k | k
 ·omega
 exfalso
 have:=kQ hq (d:=(Int.gcd q x:Int)) (by omega) (Int.emod_eq_zero_of_dvd hg);rw [this] at hg2;exact h (Int.emod_eq_zero_of_dvd hg2)
theorem qS {q x y:Int} (hq:f8 q) (h:x*y % q=0) (hx:¬ x % q=0):y % q=0:=by
 have h1:=Int.dvd_gcd_mul_iff_dvd_mul.2 (Int.dvd_of_emod_eq_zero h);rw [qQ hq hx] at h1;exact Int.emod_eq_zero_of_dvd (by simpa using h1)
noncomputable def qN (n p:Int):Bool:=prime p && (n % p == 0)
noncomputable def mj (n:Int):List Int:=sel (qN n) 0 (n.natAbs+1)
theorem mw {f:Int→Bool} {k m:Nat} (h:∀ x:Int,(k:Int)≤x→x<m→f x=false) (hkm:k≤m):sel f 0 m=sel f 0 k:=by
 induction m with
 | zero=>
      obtain rfl:k=0:=by omega
      rfl
 | succ m ih=>
 rcases Nat.lt_or_ge k (m+1) with q | q
 ·rw [vY (by rw [Int.zero_add];exact h m (by omega) (by omega)),ih (fun x h1 h2=>h x h1 (by omega)) (by omega)]
 obtain rfl:k=m+1:=by omega
 rfl
structure po (N n p:Int) (l:List Int):Prop where
 n1:1≤n
 p2:2≤p
 nN:n≤N
 pn:n=1∨p≤n
 pN:p≤N+1
 dvd:N % n=0
 low:∀ d:Int,2≤d→d<p→¬ n % d=0
 big:∀ q:Int,f8 q→p≤q→N % q=0→n % q=0
 out:l=sel (qN N) 0 p.toNat
theorem po.start {N:Int} (h:1≤N):po N N 2 [] where
 n1:=h
 p2:=by omega
 nN:=by omega
 pn:=by omega
 pN:=by omega
 dvd:=Int.emod_self
 low:=fun d h1 h2=>by omega
 big:=fun q _ _ h=>h
 out:=by
  have:sel (qN N) 0 2=sel (qN N) 0 0:=mw (fun x h1 h2=>by
   unfold qN;rw [qT.2 (fun h=>by have:=h.1;omega)]
   rfl) (by omega)
  exact this.symm
theorem po.prime {N n p:Int} {l:List Int} (h:po N n p l) (hn:1<n) (hp:n<p*p):f8 n:=by
 refine ⟨by omega,fun d h2 hd=>h.low d h2 ?_⟩;exact xH (by have:=h.p2;omega) (by omega)
theorem uw {a b c:Int} (h:c % b=0) (k:b % a=0):c % a=0:=
 Int.emod_eq_zero_of_dvd (Int.dvd_trans (Int.dvd_of_emod_eq_zero k) (Int.dvd_of_emod_eq_zero h))
structure H3 (n p n':Int):Prop where
 n1:1≤n'
 nn:n'≤n
 dvd:n % n'=0
 big:∀ q:Int,f8 q→p<q→n % q=0→n' % q=0
theorem H3.start {n p:Int} (h:1≤n):H3 n p n:=⟨h,by omega,Int.emod_self,fun _ _ _ h=>h⟩
theorem j8 {n p:Int} (hp:1≤p) (h:n % p=0):n / p*p=n:=Int.ediv_mul_cancel (Int.dvd_of_emod_eq_zero h)
theorem uv {n p:Int} (hp:2≤p) (hn:1≤n):n / p<n:=by
 have:=Int.ediv_lt_of_lt_mul (a:=n) (b:=n) (c:=p) (by omega) (by
  have:=Int.mul_le_mul_of_nonneg_left hp (show 0≤n by omega)
  omega)
 exact this
theorem H3.step {n p n':Int} (h:H3 n p n') (hp:f8 p) (hd:n' % p=0):H3 n p (n' / p):=by
 have hp2:=hp.1;have he:=j8 (by omega) hd;have h1:=h.n1
 have hpos:1≤n' / p:=by
  rcases Int.lt_or_le (n' / p) 1 with k | k
  ·have:n' / p*p≤0:=Int.mul_nonpos_of_nonpos_of_nonneg (by omega) (by omega)
   omega
  exact k
 have hlt:=uv hp2 h1;refine ⟨hpos,by have:=h.nn;omega,uw h.dvd ?_,fun q hq hpq hnq=>?_⟩
 ·exact Int.emod_eq_zero_of_dvd ⟨p,he.symm⟩
 have:=h.big q hq hpq hnq;refine qS hq (x:=p) ?_ ?_
 ·rw [Int.mul_comm,he];exact this
 intro hz;have:=kQ hp hq.1 hz;omega
theorem po.done {N n p:Int} {l:List Int} (h:po N n p l) (hn:n≤1):l=mj N:=by
 have h1:=h.n1
 have hn:n=1:=by omega
 have hN:=h.nN;rw [h.out];unfold mj
 have e:((N.natAbs:Nat):Int)=N:=by omega
 refine (mw (fun x h2 h3=>?_) (by have:=h.pN;omega)).symm;unfold qN
 cases hp:M.prime x
 ·rfl
 cases hd:(N % x == 0)
 ·rfl
 have hx:=qR.1 hp;have:=h.big x hx (by have:=h.p2;omega) (by simpa using hd);rw [hn] at this;have:=hx.1;have:(1:Int) % x=1:=Int.emod_eq_of_lt (by omega) (by omega);omega
theorem tO {a p:Int} (hp:2≤p) (ha:a≠0) (h:a % p=0):(a / p).natAbs<a.natAbs∧a / p≠0:=by
 have he:=j8 (n:=a) (by omega) h
 have e2:a.natAbs=(a / p).natAbs*p.natAbs:=by rw [←Int.natAbs_mul,he]
 have hp':2≤p.natAbs:=by omega
 have hne:a / p≠0:=by
  intro hz;rw [hz] at he;omega
 have:(a / p).natAbs*2≤(a / p).natAbs*p.natAbs:=Nat.mul_le_mul_left _ hp';exact ⟨by omega,hne⟩
end M
namespace M
def kU (u4 u6:Int):Nat→Int→Int→Int × Int
 | 0,a,b=>(a,b)
 | f+1,a,b=>if a % u4=0∧b % u6=0∧(a≠0∨b≠0) then kU u4 u6 f (a / u4) (b / u6) else (a,b)
theorem sx {u4 u6:Int} {f:Nat} {a b:Int} (hf:a.natAbs+b.natAbs≤f) (h:a % u4=0) (h':b % u6=0) (hn:a≠0∨b≠0):kU u4 u6 f a b=kU u4 u6 (f - 1) (a / u4) (b / u6):=by
 cases f with
 | zero=>omega
 | succ f=>simp [kU,h,h',hn]
theorem gT {a p:Int} (hp:2≤p) (h:a % p=0):(a / p).natAbs≤a.natAbs∧(a≠0→(a / p).natAbs<a.natAbs∧a / p≠0):=by
 by_cases ha:a=0
 ·subst ha;simp
 have:=tO hp ha h;exact ⟨by omega,fun _=>this⟩
theorem qb {u4 u6 a b:Int} (h4:2≤u4) (h6:2≤u6) (h:a % u4=0) (h':b % u6=0) (hn:a≠0∨b≠0) :
  (a / u4).natAbs+(b / u6).natAbs<a.natAbs+b.natAbs∧(a / u4≠0∨b / u6≠0):=by
 have h1:=gT h4 h;have h2:=gT h6 h'
 rcases hn with k | k
 ·have:=h1.2 k
  exact ⟨by omega,Or.inl this.2⟩
 have:=h2.2 k;exact ⟨by omega,Or.inr this.2⟩
def vf (u4 u6:Int) (x:Int × Int):Int × Int:=kU u4 u6 (x.1.natAbs+x.2.natAbs) x.1 x.2
structure qx (u4 u6:Int) (p:Int × Int) (x y:Int):Prop where
 ne:x≠0∨y≠0
 bx:x.natAbs≤p.1.natAbs
 bY:y.natAbs≤p.2.natAbs
 st:∃ f,x.natAbs+y.natAbs≤f∧kU u4 u6 f x y=vf u4 u6 p
theorem qx.start {u4 u6 x y:Int} {p:Int × Int} (hp:(x,y)=p) (h:x≠0∨y≠0):qx u4 u6 p x y:=by
 subst hp;exact ⟨h,xP _,xP _,_,xP _,rfl⟩
theorem qx.step {u4 u6 x y:Int} {p:Int × Int} (h4:2≤u4) (h6:2≤u6) (h:qx u4 u6 p x y) (hx:x % u4=0) (hy:y % u6=0):qx u4 u6 p (x / u4) (y / u6):=by
 obtain ⟨f,hf,hs⟩:=h.st;have hsum:=qb h4 h6 hx hy h.ne;have h1:=(gT h4 hx).1;have h2:=(gT h6 hy).1;refine ⟨hsum.2,Nat.le_trans h1 h.bx,Nat.le_trans h2 h.bY,f - 1,by omega,?_⟩;rw [←sx hf hx hy h.ne];exact hs
end M
namespace M
def el (p:Int):Nat→Int
 | 0=>1
 | k+1=>el p k*p
end M
namespace M
def Inc (l:List Int):Prop:=l.Pairwise (·<·)
theorem Inc.ext:∀ {l m:List Int},Inc l→Inc m→(∀ x,x ∈ l ↔ x ∈ m)→l=m
 | [],[],_,_,_=>rfl
 | [],y :: m,_,_,h=>absurd ((h y).2 List.mem_cons_self) (by simp)
 | x :: l,[],_,_,h=>absurd ((h x).1 List.mem_cons_self) (by simp)
 | x :: l,y :: m,h1,h2,h=>by
  obtain ⟨a1,b1⟩:=List.pairwise_cons.1 h1;obtain ⟨a2,b2⟩:=List.pairwise_cons.1 h2
  have hxy:x=y:=by
   rcases List.mem_cons.1 ((h x).1 List.mem_cons_self) with e | e
   ·exact e
   rcases List.mem_cons.1 ((h y).2 List.mem_cons_self) with e' | e'
   ·exact e'.symm
   have:=a1 y e';have:=a2 x e;omega
  subst hxy
  congr 1
  refine Inc.ext b1 b2 fun z=>⟨fun hz=>?_,fun hz=>?_⟩
  ·rcases List.mem_cons.1 ((h z).1 (List.mem_cons_of_mem _ hz)) with e | e
   ·have:=a1 z hz;omega
   exact e
  rcases List.mem_cons.1 ((h z).2 (List.mem_cons_of_mem _ hz)) with e | e
  ·have:=a2 z hz;omega
  exact e
def cN (xs:List Int) (n:Int):Nat:=(xs.takeWhile (decide <| ·<n)).length
def put (xs:List Int) (n:Int):List Int:=if xs[cN xs n]?=some n then xs else xs.take (cN xs n) ++ [n] ++ xs.drop (cN xs n)
end M
namespace M
def four (u:Int):Int:=u*u*u*u
def six (u:Int):Int:=u*u*u*u*u*u
def tX (a b u:Int):Bool:=decide (a % four u=0) && decide (b % six u=0)
def sm (a b:Int):Int:=if tX a b 5 then 5 else if tX a b 4 then 4 else if tX a b 3 then 3 else if tX a b 2 then 2 else 1
def FW (c d:Int × Int):Bool:=decide (c.1<d.1) || (decide (c.1=d.1) && decide (c.2<d.2))
theorem oi {c d:Int × Int}:FW c d=true ↔ c.1<d.1∨(c.1=d.1∧c.2<d.2):=by simp [FW]
theorem kr (c:Int × Int):FW c c=false:=by
 cases h:FW c c
 ·rfl
 rw [oi] at h;omega
theorem uo {a b c:Int × Int} (h1:FW a b=true) (h2:FW b c=true):FW a c=true:=by
 rw [oi] at *;omega
def tI (l:List (Int × Int)):Prop:=l.Pairwise (fun a b=>FW a b=true)
theorem tI.ext:∀ {l m:List (Int × Int)},tI l→tI m→(∀ x,x ∈ l ↔ x ∈ m)→l=m
 | [],[],_,_,_=>rfl
 | [],y :: m,_,_,h=>absurd ((h y).2 List.mem_cons_self) (by simp)
 | x :: l,[],_,_,h=>absurd ((h x).1 List.mem_cons_self) (by simp)
 | x :: l,y :: m,h1,h2,h=>by
  obtain ⟨a1,b1⟩:=List.pairwise_cons.1 h1;obtain ⟨a2,b2⟩:=List.pairwise_cons.1 h2
  have hxy:x=y:=by
   rcases List.mem_cons.1 ((h x).1 List.mem_cons_self) with e | e
   ·exact e
   rcases List.mem_cons.1 ((h y).2 List.mem_cons_self) with e' | e'
   ·exact e'.symm
   have:=uo (a1 y e') (a2 x e);rw [kr] at this;cases this
  subst hxy
  congr 1
  refine tI.ext b1 b2 fun z=>⟨fun hz=>?_,fun hz=>?_⟩
  ·rcases List.mem_cons.1 ((h z).1 (List.mem_cons_of_mem _ hz)) with e | e
   ·have:=a1 z hz;rw [e,kr] at this;cases this
   exact e
  rcases List.mem_cons.1 ((h z).2 (List.mem_cons_of_mem _ hz)) with e | e
  ·have:=a2 z hz;rw [e,kr] at this;cases this
  exact e
end M
end
section
open Go.RowKit
theorem qK {w:World} {b1 b2 n1 n2 s1 s2:Nat} {t1 t2:TypeId} {v1 v2:Value} {x1 x2:List Value} (h1:w.ownsRow b1 t1 s1 v1 n1 x1) (h2:w.ownsRow b2 t2 s2 v2 n2 x2) (ht:t1≠t2):∀ g,v2.ownBlock=some g→v1.ownBlock≠some g:=by
 intro g hg hg'
 rcases h1.2 with ⟨rfl,-⟩ | ⟨g1,c1,cur1,rfl,-,Dt,-⟩
 ·cases hg'
 rcases h2.2 with ⟨rfl,-⟩ | ⟨g2,c2,cur2,rfl,-,DA,-⟩
 ·cases hg
 simp only [Value.ownBlock,Option.some.injEq] at hg hg';subst hg hg';rw [Dt] at DA
 injection DA with DA
 injection DA with _ ht' _
 exact ht ht'
namespace Rw
variable {α:Type} {E:Enc α} {w w':World} {base:Nat} {v:Value} {xs:List α}
theorem Own.Nq (E:Enc α) (x:α) (w:World) (base:Nat) (hb:base≤w.heap.size):Own E (w.alloc (.cells (E.cells x).toArray E.t)) base (.slice (some ⟨w.heap.size,0,none⟩) 1 1) [x]:=
 ⟨by simp [E.len],.inr ⟨w.heap.size,1,(E.cells x).toArray,rfl,hb,heap_alloc_new w _,xP 1,by unfold maxLen;omega,by simp [E.len],by simp [E.len,List.take_of_length_le]⟩⟩
theorem qX {P:Program} {ts:TypeId} (F:Fits P E ts) (ty:TypeId) (ys:List α) (ad:Addr) (c:Nat)
  (hr:From E w (some ad) ys) (hown:Own E w base v xs) (hB:base≤w.heap.size) (hl:xs.length+ys.length≤100000000000) :
  ∃ v' w',(Builtin.append_ #[ts,ts] ty #[v,.slice (some ad) ys.length c]).run P w=.ok v' w'∧Own E w' base v' (xs ++ ys)∧w.grownBy w' v.ownBlock∧(v'.ownBlock=v.ownBlock∨v'.ownBlock=some w.heap.size):=by
 obtain ⟨i,z,hi,hz,hs,hby,hzc⟩:=F.info;have hbb:(xs.length+ys.length)*i.bytes≤140737488355328:=Nat.le_trans (Nat.mul_le_mul hl hby) (by omega)
 obtain ⟨v',w',h1,h2,h3,-,h5⟩:=run_append_own_at (P:=P) w base ts ty E.t i z E.k i.bytes F.under hi hz hs rfl hzc E.pos v xs.length (xs.flatMap E.cells) hown ad ys.length c (ys.flatMap E.cells)
  (ej E ys) (fun j u hu=>by
   obtain ⟨ad',h1,h2⟩:=hr j u hu;obtain rfl:=Option.some.inj h1
   exact h2) (j6 E ys) (by unfold maxLen;omega) hbb hB
 refine ⟨v',w',h1,?_,h3,h5⟩;unfold Own;rw [List.flatMap_append,List.length_append];exact h2
theorem wb {P:Program} {ts:TypeId} (F:Fits P E ts) {ops:Array Oper} {rest:List Oper} {o:Oper} {a:Act} {Q:Exit→Act→World→Prop} (base:Nat) (ys xs:List α) (v:Value) (ad:Addr) (m c:Nat) (hm:ys.length=m) (hgd:o.guard=none) (s x:Operand)
  (ho:o.op=.call { callee:=.builtin .append,args:=#[s,x],argTypes:=#[ts,ts] }) (hs:a.eval s=v) (hx:a.eval x=.slice (some ad) m c)
  (hr:From E w (some ad) ys) (hown:Own E w base v xs) (hB:base≤w.heap.size) (hl:xs.length+ys.length≤100000000000)
  (h:∀ v' w',Own E w' base v' (xs ++ ys)→w.grownBy w' v.ownBlock→(v'.ownBlock=v.ownBlock∨v'.ownBlock=some w.heap.size)→wpList P ops Q rest (a.put o.dst v') w') :
  wpList P ops Q (o :: rest) a w:=by
 subst hm
 refine wpList_plain hgd fun _ hK=>?_
 obtain ⟨v',w',h1,h2,h3,h4⟩:=qX F (w:=w) (base:=base) o.type ys ad c hr hown hB hl;unfold Oper.wp execOp;simp only [ho,resolve,invoke,builtin,Sem.run_bind,Sem.run_pure,Result.andThen_ok,List.map_toArray,List.map_cons,List.map_nil,hs,hx,h1];exact hK _ _ (h v' w' h2 h3 h4)
end Rw
theorem aF.cellAt {w:World} {base g n cap:Nat} {xs:List Int} (hn:n=xs.length) (h:aF w base (.slice (some ⟨g,0,none⟩) n cap) xs) {i:Nat} {t:Int} (ht:xs[i]?=some t):w.cell? ⟨g,i,none⟩=some (.int .i64 t):=by
 have hi:=(List.getElem?_eq_some_iff.1 ht).1;subst hn;have:=World.ownsRow.cellAt (g:=g) (cap:=cap) (n:=xs.length) h i (by omega);rw [this,List.getElem?_map,ht];rfl
end
section
open Go.RowKit Go.Shelf
theorem aF.setCells (base g cap n:Nat):∀ (l:List Int) (o:Nat) (w:World) (xs:List Int),n=xs.length→aF w base (.slice (some ⟨g,0,none⟩) n cap) xs→
  ∃ ys,aF (w.setCells g o (l.map (Value.int .i64))) base (.slice (some ⟨g,0,none⟩) n cap) ys∧ys.take o=xs.take o∧ys.length=xs.length∧w.grownBy (w.setCells g o (l.map (Value.int .i64))) (some g)
 | [],o,w,xs,_,h=>⟨xs,h,rfl,rfl,dE _ _⟩
 | x :: l,o,w,xs,hn,h=>by
  have h1:=aF.set (j:=o) hn h x rfl;obtain ⟨ys,k1,k2,k3,k4⟩:=aF.setCells base g cap n l (o+1) _ (xs.set o x) (by rw [List.length_set];exact hn) h1.1;refine ⟨ys,k1,?_,by rw [k3,List.length_set],ce h1.2 k4⟩;have:=congrArg (List.take o) k2;rw [List.take_take,List.take_take,Nat.min_eq_left (by omega)] at this;rw [this,List.take_set,List.set_eq_of_length_le (by rw [List.length_take];omega)]
theorem aF.cut {w:World} {base g cap n:Nat} {xs:List Int} (hn:n=xs.length) (h:aF w base (.slice (some ⟨g,0,none⟩) n cap) xs) {i:Nat} (hi:i≤n) {ys:List Int} (hy:ys=xs.take i):aF w base (.slice (some ⟨g,0,none⟩) i cap) ys:=by
 subst hy hn;obtain ⟨h1,h2⟩:=h
 have hl:(xs.take i).length=i:=by rw [List.length_take];omega
 rcases h2 with ⟨e,-⟩ | ⟨g',cap',cur,e,hg,hh,hc,hm,hs,ht⟩
 ·cases e
 injection e with e1 e2 e3
 simp only [Option.some.injEq,Addr.mk.injEq,and_true] at e1;subst e1 e3;refine ⟨by simp,Or.inr ⟨g,cap,cur,by rw [hl],hg,hh,by omega,hm,hs,?_⟩⟩;have:=congrArg (List.take i) ht;rw [List.take_take,Nat.min_eq_left (by omega)] at this;rw [hl,Nat.mul_one,this,List.map_take]
end
end Go.Proofs.YtggekfbfechonaaGreat
