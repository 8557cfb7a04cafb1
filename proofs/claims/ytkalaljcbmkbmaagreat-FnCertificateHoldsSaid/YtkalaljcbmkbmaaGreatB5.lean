/-
  Joined texts: contracts and plain lemmas.
-/
import Derived.Test.YtkalaljcbmkbmaaGreatB1
import Derived.Test.YtkalaljcbmkbmaaGreatB4
set_option linter.unusedSimpArgs false
set_option linter.unusedVariables false
set_option maxRecDepth 100000
set_option maxHeartbeats 8000000
namespace Go.Proofs.YtkalaljcbmkbmaaGreat
section
open Go Go.RowKit
namespace Rg
variable {P:Program} {Q:Exit->Act->World->Prop} {md:Region.Mode}
def IQ (md:Region.Mode) (ops:Array Oper):Nat->Nat->Nat->Bool
 | 0,_,_=>false
 | f+1,i,j=>match ops[i]? with
  | some o=>o.after.toList.any (fun e=>Region.binds md e && e.on == j) || o.after.toList.any (fun e=>Region.binds md e && IQ md ops f e.on j)
  | none=>false
def ji (md:Region.Mode) (ops:Array Oper) (n0:Nat):Bool:=decide (n0<=ops.size) && (List.range ops.size).all fun i=>decide (i<n0) || ((match ops[i]? with | some o=>o.guard.isNone | none=>true) && (List.range i).all fun j=>IQ md ops 3 i j)
def aX (P:Program) (Q:Exit->Act->World->Prop):List Oper->Act->World->Prop
 | [],a,w=>Q .normal a w
 | o :: os,a,w=>o.wp P a w (fun a' w'=>aX P Q os a' w') Q
theorem kh {ops:Array Oper} {L:Array Bool} (hdc:∀ i o,ops[i]?=some o->L.getD i false=true->∀ e ∈ o.after,Region.binds md e=true->L.getD e.on false=true):∀ (f i j:Nat) (o:Oper),ops[i]?=some o->
  (∀ e ∈ o.after,Region.binds md e=true->L.getD e.on false=true)->IQ md ops f i j=true->L.getD j false=true
 | 0,_,_,_,_,_,h=>by simp [IQ] at h
 | f+1,i,j,o,ho,hd,h=>by
  unfold IQ at h;rw [ho] at h;simp only [Bool.or_eq_true,List.any_eq_true,Bool.and_eq_true,beq_iff_eq] at h
  rcases h with ⟨e,he,hb,rfl⟩ | ⟨e,he,hb,ha⟩
  ·exact hd e (Array.mem_toList_iff.1 he) hb
  have hde:=hd e (Array.mem_toList_iff.1 he) hb
  cases ho2:ops[e.on]? with
  | none=>
   exfalso
   cases f with
   | zero=>simp [IQ] at ha
   | succ f=>unfold IQ at ha;rw [ho2] at ha;exact absurd ha (by simp)
  | some o2=>exact kh hdc f e.on j o2 ho2 (hdc e.on o2 ho2 hde) ha
theorem mu {ops:Array Oper} {n0:Nat} (ht:ji md ops n0=true):n0<=ops.size/\∀ i,i<ops.size->n0<=i->(∀ o,ops[i]?=some o->o.guard=none)/\∀ j,j<i->IQ md ops 3 i j=true:=by
 rw [ji,Bool.and_eq_true] at ht;refine ⟨of_decide_eq_true ht.1,fun i hi hn=>?_⟩;have:=List.all_eq_true.1 ht.2 i (List.mem_range.2 hi);simp only [Bool.or_eq_true,decide_eq_true_eq,Bool.and_eq_true,List.all_eq_true,List.mem_range] at this
 rcases this with q | ⟨q1,q2⟩
 ·omega
 refine ⟨fun o ho=>?_,q2⟩;rw [ho] at q1;exact Option.isNone_iff_eq_none.1 q1
theorem sn {L:Array Bool} {i:Nat} (h:i<L.size):L.getD i true=L.getD i false:=by
 simp only [Array.getD_eq_getD_getElem?];rw [Array.getElem?_eq_getElem h];rfl
theorem rp {ops:Array Oper} {n0:Nat} (ht:ji md ops n0=true) (hac:∀ i o,ops[i]?=some o->∀ e ∈ o.after,Region.binds md e=true->e.on<i) :
  ∀ (fuel:Nat) (L:Array Bool) (a:Act) (w:World) (k:Nat),n0<=k->k<=ops.size->L.size=ops.size->(∀ j,j<ops.size->L.getD j false=decide (j<k))->
  ops.size - k<=fuel->aX P Q (ops.toList.drop k) a w->wpAny P md ops Q fuel L a w:=by
 obtain ⟨-,htl⟩:=mu ht
 have LJ:∀ (L:Array Bool) (k:Nat),n0<=k->(∀ j,j<ops.size->L.getD j false=decide (j<k))->L.size=ops.size->∀ i,i ∈ Region.ready md ops L->i=k/\i<ops.size:=by
  intro L k hk hL hsz i hi;obtain ⟨hun,o,ho,GM⟩:=mem_ready.1 hi;have hilt:i<ops.size:=(Array.getElem?_eq_some_iff.1 ho).1;rw [sn (by omega),hL i hilt,decide_eq_false_iff_not] at hun;refine ⟨?_,hilt⟩
  rcases Nat.lt_or_ge k i with q | q
  ·exfalso
   have hdc:∀ i o,ops[i]?=some o->L.getD i false=true->∀ e ∈ o.after,Region.binds md e=true->L.getD e.on false=true:=by
    intro i' o' ho' hl' e he hb;have hi':i'<ops.size:=(Array.getElem?_eq_some_iff.1 ho').1;rw [hL i' hi',decide_eq_true_eq] at hl';have:=hac i' o' ho' e he hb;rw [hL e.on (by omega),decide_eq_true_eq];omega
   have:=kh hdc 3 i k o ho GM ((htl i hilt (by omega)).2 k q);rw [hL k (by omega),decide_eq_true_eq] at this;omega
  omega
 have hend:∀ (L:Array Bool) (a:Act) (w:World) (k:Nat),n0<=k->k<=ops.size->L.size=ops.size->(∀ j,j<ops.size->L.getD j false=decide (j<k))->aX P Q (ops.toList.drop k) a w->Region.ready md ops L=[]->Q .normal a w:=by
  intro L a w k hk hk2 hsz hL h hr
  have hks:k=ops.size:=by
   rcases Nat.lt_or_ge k ops.size with q | q
   ·exfalso
    have hm:k ∈ Region.ready md ops L:=by
     refine mem_ready.2 ⟨?_,_,Array.getElem?_eq_getElem q,fun e he hb=>?_⟩
     ·rw [sn (by omega),hL k q]
      simp
     have:=hac k _ (Array.getElem?_eq_getElem q) e he hb;rw [hL e.on (by omega),decide_eq_true_eq];exact this
    rw [hr] at hm;cases hm
   omega
  subst hks;rw [List.drop_eq_nil_of_le (by simp)] at h;exact h
 intro fuel
 induction fuel with
 | zero=>
  intro L a w k hk hk2 hsz hL hf h
  have hr:Region.ready md ops L=[]:=by
   rw [List.eq_nil_iff_forall_not_mem];intro i hi;have:=LJ L k hk hL hsz i hi;omega
  exact ⟨hr,hend L a w k hk hk2 hsz hL h hr⟩
 | succ fuel ih=>
 intro L a w k hk hk2 hsz hL hf h;refine ⟨hend L a w k hk hk2 hsz hL h,fun i hi=>?_⟩;obtain ⟨rfl,hilt⟩:=LJ L k hk hL hsz i hi;have ho:ops[i]?=some ops[i]:=Array.getElem?_eq_getElem hilt
 have hdr:ops.toList.drop i=ops[i] :: ops.toList.drop (i+1):=by
  rw [List.drop_eq_getElem_cons (by simpa using hilt)];simp
 rw [hdr] at h;unfold wpOp;rw [ho]
 dsimp only
 have hg:=(htl i hilt hk).1 _ ho
 have hw:Region.wanted ops[i] (yielded ops a.tmps)=true:=by
  unfold Region.wanted;rw [hg]
 rw [if_pos hw];refine Or.inl (Oper.wp_mono ?_ h);intro a' w' h';refine ih _ a' w' (i+1) (by omega) (by omega) (by simpa using hsz) (fun j hj=>?_) (by omega) h';simp only [Array.getD_eq_getD_getElem?]
 by_cases hji:j=i
 ·subst hji
  rw [Array.getElem?_setIfInBounds_self_of_lt (by omega)];simp
 rw [Array.getElem?_setIfInBounds_ne (fun e=>hji e.symm)];have:=hL j hj;simp only [Array.getD_eq_getD_getElem?] at this;rw [this,decide_eq_decide];omega
theorem sr {l:Nat->Bool} {k:Nat}:∀ n:Nat,(∀ j,j<n->l j=decide (j<k))->left l n=n - min k n
 | 0,_=>by simp [left]
 | n+1,h=>by
  unfold left;rw [sr n (fun j hj=>h j (by omega)),h n (by omega)]
  by_cases q:n<k
  ·rw [decide_eq_true q,if_pos rfl]
   omega
  rw [decide_eq_false q,if_neg (by decide)];omega
theorem jQ {l:Nat->Bool} {v:Nat->Value}:∀ (os:List Oper) (k m:Nat) (a:Act),(∀ j,k<=j->j<k+os.length->l j=decide (j<k+m))->fill l v os k a=fill (fun _=>true) v (os.take m) k a
 | [],k,m,a,_=>by rw [List.take_nil];rfl
 | o :: os,k,0,a,h=>by
  rw [List.take_zero];unfold fill
  rw [h k (DF _) (by simp),decide_eq_false (by omega),if_neg (by decide),jQ os (k+1) 0 a (fun j h1 h2=>by
   rw [h j (by omega) (by simp;omega),decide_eq_decide]
   omega),List.take_zero]
  rfl
 | o :: os,k,m+1,a,h=>by
  rw [List.take_succ_cons];unfold fill;rw [h k (DF _) (by simp),decide_eq_true (by omega),if_pos rfl]
  exact jQ os (k+1) m _ fun j h1 h2=>by
   rw [h j (by omega) (by simp;omega),decide_eq_decide];omega
section
variable (P) (Q) (md) (ops:Array Oper) (S:World->Prop) (V:Nat->Value->World->Prop) (a0:Act) (fr:Nat->Bool)
def vA (i:Nat) (o:Oper) (a:Act) (w:World):Prop:=
 if Region.wanted o (yielded ops a.tmps)=true then o.wp P a w (fun a' w'=>∃ v,a'=a.put o.dst v/\V i v w'/\S w'/\(∀ j u,V j u w->V j u w')/\(fr i=true->∀ j u,fr j=true->V j u w->u≠v)) Q else V i undef w/\fr i=false
def As (i:Nat) (o:Oper):Prop:=∀ (a:Act) (w:World) (vals:Nat->Value),S w->(∀ e ∈ o.after,Region.binds md e=true->V e.on (vals e.on) w)->(∀ t ∈ o.looksAt ops,a.tmps[t]?=rd md ops a0 vals o t)->vA P Q ops S V fr i o a w
def kd:List Oper->Nat->Prop
 | [],_=>True
 | o :: os,k=>As P Q md ops S V a0 fr k o/\kd os (k+1)
theorem kd.at {os:List Oper} {k:Nat} (h:kd P Q md ops S V a0 fr os k):∀ {i:Nat} {o:Oper},os[i]?=some o->As P Q md ops S V a0 fr (k+i) o:=by
 induction os generalizing k with
 | nil=>intro i o hi;simp at hi
 | cons x os ih=>
 intro i o hi
 cases i with
 | zero=>
  simp only [List.getElem?_cons_zero,Option.some.injEq] at hi;subst hi;exact h.1
 | succ i=>
 have:=ih h.2 (i:=i) (o:=o) (by simpa using hi);rw [show k+(i+1)=k+1+i from by omega];exact this
def CG (L:Array Bool) (a:Act) (w:World):Prop:=
 L.size=ops.size/\S w/\(∀ i o,ops[i]?=some o->L.getD i false=true->∀ e ∈ o.after,Region.binds md e=true->L.getD e.on false=true)/\
 ∃ vals:Nat->Value,a=fill (fun j=>L.getD j false) vals ops.toList 0 a0/\(∀ i,i<ops.size->L.getD i false=true->V i (vals i) w)/\
  ∀ i j,i<ops.size->j<ops.size->L.getD i false=true->L.getD j false=true->i≠j->fr i=true->fr j=true->vals i≠vals j
end
theorem ur {ops:Array Oper} {S:World->Prop} {V:Nat->Value->World->Prop} {a0:Act} {n0:Nat} {fr:Nat->Bool} (hok:fC md ops a0.tmps.size=true) (ht:ji md ops n0=true)
  (hR:kd P Q md ops S V a0 fr (ops.toList.take n0) 0) (hF:∀ (vals:Nat->Value) (w:World),S w->(∀ i,i<n0->V i (vals i) w)->(∀ i j,i<n0->j<n0->i≠j->fr i=true->fr j=true->vals i≠vals j)->aX P Q (ops.toList.drop n0) (fill (fun _=>true) vals (ops.toList.take n0) 0 a0) w) :
  ∀ (fuel:Nat) (L:Array Bool) (a:Act) (w:World),left (fun j=>L.getD j false) ops.size<=fuel->(∀ i,i<ops.size->L.getD i false=true->i<n0)->CG md ops S V a0 fr L a w->wpAny P md ops Q fuel L a w:=by
 obtain ⟨hn0,hta⟩:=mu ht;rw [fC,Bool.and_eq_true,Bool.and_eq_true] at hok;obtain ⟨⟨hap,hrd⟩,hac⟩:=hok
 have El:∀ i o,ops[i]?=some o->(∀ e ∈ o.after,Region.binds md e=true->e.on<i)/\∀ d,o.dst=some d->d<a0.tmps.size:=fun i o hi=>by
  have hlt:i<ops.size:=(Array.getElem?_eq_some_iff.1 hi).1;have:=List.all_eq_true.1 hac i (List.mem_range.2 hlt);rw [hi] at this;simp only [Bool.and_eq_true,List.all_eq_true,Bool.or_eq_true,Bool.not_eq_true',decide_eq_true_eq] at this;refine ⟨fun e he hb=>?_,fun d hd=>?_⟩
  ·rcases this.1 e (Array.mem_toList_iff.2 he) with q | q
   ·rw [hb] at q;cases q
   exact q
  have:=this.2;rw [hd] at this
  simpa using this
 have htl:∀ i,ops.toList[i]?=ops[i]?:=fun i=>Array.getElem?_toList
 have hall:∀ L:Array Bool,L.size=ops.size->Region.ready md ops L=[]->∀ i,i<ops.size->L.getD i false=true:=by
  intro L hL hr i
  induction i using Nat.strongRecOn with
  | ind i ih=>
  intro hi
  cases hl:L.getD i false
  ·exfalso
   have hm:i ∈ Region.ready md ops L:=by
    unfold Region.ready;rw [List.mem_filter];refine ⟨List.mem_range.2 hi,?_⟩
    have hg:L.getD i true=false:=by
     rw [Array.getD_eq_getD_getElem?,Array.getElem?_eq_getElem (by omega)] at hl ⊢;exact hl
    rw [hg,Array.getElem?_eq_getElem hi];simp only [Bool.not_false,Bool.true_and,Option.map_some,Option.getD_some];rw [Array.all_eq_true_iff_forall_mem];intro e he
    cases hb:Region.binds md e
    ·rfl
    have hlt:=(El i _ (Array.getElem?_eq_getElem hi)).1 e he hb;simp [ih e.on hlt (by omega)]
   rw [hr] at hm;cases hm
  rfl
 have hdone:∀ (fuel:Nat) (L:Array Bool) (a:Act) (w:World),left (fun j=>L.getD j false) ops.size<=fuel->(∀ i,i<ops.size->L.getD i false=true->i<n0)->CG md ops S V a0 fr L a w->(∀ j,j<n0->L.getD j false=true)->wpAny P md ops Q fuel L a w:=by
  rintro fuel L a w hl hb ⟨hL,hS,hdc,vals,rfl,hv,hfr⟩ hj
  have Pj:∀ j,j<ops.size->L.getD j false=decide (j<n0):=fun j hjs=>by
   by_cases q:j<n0
   ·rw [hj j q,decide_eq_true q]
   rw [decide_eq_false q]
   cases hc:L.getD j false
   ·rfl
   exact absurd (hb j hjs hc) q
  rw [sr (k:=n0) ops.size Pj] at hl;refine rp ht (fun i o hi=>(El i o hi).1) fuel L _ w n0 (DF _) hn0 hL Pj (by omega) ?_;rw [jQ (l:=fun j=>L.getD j false) (m:=n0) ops.toList 0 a0 (fun j _ h2=>by rw [Nat.zero_add];exact Pj j (by simpa using h2))]
  exact hF vals w hS (fun i hi=>hv i (by omega) (hj i hi)) fun i j hi hj' hne=>hfr i j (by omega) (by omega) (hj i hi) (hj j hj') hne
 intro fuel
 induction fuel with
 | zero=>
  intro L a w hl hb hI;have hz:=iB _ (Nat.le_zero.1 hl);exact hdone 0 L a w hl hb hI (fun j hj=>hz j (by omega))
 | succ fuel ih=>
 intro L a w hl hb hI
 by_cases hj:∀ j,j<n0->L.getD j false=true
 ·exact hdone _ L a w hl hb hI hj
 refine ⟨fun hr=>absurd (fun j hjn=>hall L hI.1 hr j (by omega)) hj,fun i hi=>?_⟩;obtain ⟨hL,hS,hdc,vals,rfl,hv,hfr⟩:=hI;obtain ⟨hun,o,ho,GM⟩:=mem_ready.1 hi;have hilt:i<ops.size:=(Array.getElem?_eq_some_iff.1 ho).1
 have hin:i<n0:=by
  rcases Nat.lt_or_ge i n0 with q | q
  ·exact q
  exact absurd (fun j hjn=>kh hdc 3 i j o ho GM ((hta i hilt q).2 j (by omega))) hj
 have hun':L.getD i false=false:=by
  simp only [Array.getD_eq_getD_getElem?] at hun ⊢;rw [Array.getElem?_eq_getElem (by omega)] at hun ⊢;exact hun
 have hq:=kd.at P Q md ops S V a0 fr hR (i:=i) (o:=o) (by rw [List.getElem?_take_of_lt hin,htl];exact ho);rw [Nat.zero_add] at hq
 have hst:=hq (fill (fun j=>L.getD j false) vals ops.toList 0 a0) w vals hS
  (fun e he hb=>hv e.on (by have:=(El i o ho).1 e he hb;omega) (GM e he hb))
  (fun t ht=>by
   unfold rd
   have hr1:ic md ops i o t=true:=by
    have:=List.all_eq_true.1 hrd i (List.mem_range.2 hilt);rw [ho] at this;exact List.all_eq_true.1 this t ht
   cases hf:o.after.toList.find? (fun e=>Region.binds md e && ((ops[e.on]?).bind (·.dst)) == some t) with
   | some e=>
    have h1:=List.find?_some hf;have h2:=List.mem_of_find?_eq_some hf;rw [Bool.and_eq_true,beq_iff_eq] at h1;obtain ⟨x,hx,hxd⟩:=Option.bind_eq_some_iff.1 h1.2;have h3:=GM e (Array.mem_toList_iff.1 h2) h1.1;have:=kJ (l:=fun j=>L.getD j false) (v:=vals) ops.toList 0 e.on x a0 hap (by rw [htl];exact hx) (by simpa using h3) hxd ((El e.on x hx).2 t hxd);rw [Nat.zero_add] at this;exact this
   | none=>
   refine fA ops.toList 0 a0 fun j x hx hlj hxd=>?_
   rw [Nat.zero_add] at hlj;rw [htl] at hx;have hjlt:j<ops.size:=(Array.getElem?_eq_some_iff.1 hx).1;rw [ic,Bool.or_eq_true] at hr1
   rcases hr1 with q | q
   ·obtain ⟨e,he,hp⟩:=List.any_eq_true.1 q
    have:=List.find?_eq_none.1 hf e he;exact this hp
   have:=List.all_eq_true.1 q j (List.mem_range.2 hjlt);rw [hx] at this;simp only [Bool.or_eq_true,bne_iff_ne,ne_eq,beq_iff_eq,List.any_eq_true,Bool.and_eq_true] at this
   rcases this with (q1 | q1) | ⟨e,he,hb,hon⟩
   ·exact q1 hxd
   ·subst q1
    rw [hun'] at hlj;cases hlj
   have:=hdc j x hx hlj e (Array.mem_toList_iff.1 he) hb;rw [hon,hun'] at this
   cases this)
 have hnext:∀ (v:Value) (w':World),V i v w'->S w'->(∀ j u,V j u w->V j u w')->(fr i=true->∀ j u,fr j=true->V j u w->u≠v)->wpAny P md ops Q fuel (L.setIfInBounds i true) ((fill (fun j=>L.getD j false) vals ops.toList 0 a0).put o.dst v) w':=by
  intro v w' h1 h2 h3 h4
  have e1:∀ j,(L.setIfInBounds i true).getD j false=if j=i then true else L.getD j false:=fun j=>by
   simp only [Array.getD_eq_getD_getElem?]
   by_cases hji:j=i
   ·subst hji
    rw [Array.getElem?_setIfInBounds_self_of_lt (by omega)];simp
   rw [Array.getElem?_setIfInBounds_ne (fun e=>hji e.symm),if_neg hji]
  refine ih _ _ _ ?_ (fun j hjs hlj=>by rw [e1] at hlj;split at hlj <;> first | omega | exact hb j hjs hlj) ⟨by simpa using hL,h2,?_,fun j=>if j=i then v else vals j,?_,?_,?_⟩
  ·have:=i7 (l:=fun j=>L.getD j false) (l':=fun j=>(L.setIfInBounds i true).getD j false) hun' (by rw [e1,if_pos rfl]) (fun j hj=>by rw [e1,if_neg hj]) ops.size hilt
   omega
  ·intro j x hx hlj e he hb
   rw [e1] at hlj ⊢
   split
   ·rfl
   split at hlj
   ·rename_i hji
    subst hji;rw [ho] at hx;cases hx
    exact GM e he hb
   exact hdc j x hx hlj e he hb
  ·rw [ix ops.toList 0 i o a0 hap (by rw [htl];exact ho) (by simpa using hun')]
   rw [Nat.zero_add];exact b8 _ _ _ (fun j _ _=>(e1 j).symm) (fun _ _ _=>rfl)
  ·intro j hj hlj
   rw [e1] at hlj
   show V j (if j=i then v else vals j) w'
   split
   ·rename_i hji
    rw [hji];exact h1
   rename_i hji
   rw [if_neg hji] at hlj;exact h3 _ _ (hv j hj hlj)
  intro j k hj hk hlj hlk hne fj fk;rw [e1] at hlj hlk
  show (if j=i then v else vals j)≠(if k=i then v else vals k)
  split at hlj
  ·rename_i hji
   subst hji;rw [if_pos rfl,if_neg (fun e=>hne e.symm)];rw [if_neg (fun e=>hne e.symm)] at hlk
   exact fun e=>h4 fj k (vals k) fk (hv k hk hlk) e.symm
  rename_i hji
  rw [if_neg hji]
  split at hlk
  ·rename_i hki
   rw [if_pos hki];subst hki;exact h4 fk j (vals j) fj (hv j hj hlj)
  rename_i hki
  rw [if_neg hki];exact hfr j k hj hk hlj hlk hne fj fk
 unfold wpOp;rw [ho];unfold vA at hst
 dsimp only
 split at hst
 ·rename_i hw
  rw [if_pos hw];refine Or.inl (Oper.wp_mono ?_ hst);rintro a' w' ⟨v,rfl,h1,h2,h3,h4⟩;exact hnext v w' h1 h2 h3 h4
 rename_i hw
 rw [if_neg hw]
 exact hnext undef w hst.1 hS (fun _ _ h=>h) fun e=>by rw [hst.2] at e;cases e
theorem zo {id:Nat} {ops:Array Oper} {a0:Act} {w:World} {n0:Nat} (fr:Nat->Bool) (S:World->Prop) (V:Nat->Value->World->Prop) (hm:P.follows .mixedOrders=true) (hok:fC .any ops a0.tmps.size=true) (ht:ji .any ops n0=true)
  (hS:S { w with drawn:=w.drawn+1 }) (hR:kd P Q .any ops S V a0 fr (ops.toList.take n0) 0)
  (hF:∀ (vals:Nat->Value) (w:World),S w->(∀ i,i<n0->V i (vals i) w)->(∀ i j,i<n0->j<n0->i≠j->fr i=true->fr j=true->vals i≠vals j)->aX P Q (ops.toList.drop n0) (fill (fun _=>true) vals (ops.toList.take n0) 0 a0) w):(Code.region id ops true).wp P Q a0 w:=by
 have rep:∀ j,(Array.replicate ops.size false).getD j false=false:=fun j=>by
  rw [Array.getD_eq_getD_getElem?,Array.getElem?_replicate]
  split <;> rfl
 refine wp_region_any hm (ur hok ht hR hF _ _ _ _ ?_ (fun i _ hl=>by rw [rep] at hl;cases hl) ⟨by simp,hS,?_,fun _=>undef,?_,?_,?_⟩)
 ·have:∀ (l:Nat->Bool) n,left l n<=n:=fun l n=>by
   induction n with
   | zero=>exact DF _
   | succ n ih=>unfold left;split <;> omega
  exact this _ _
 ·intro i o hi hl
  rw [rep] at hl;cases hl
 ·have:∀ (v:Nat->Value) (os:List Oper) (k:Nat) (a:Act),fill (fun _=>false) v os k a=a:=fun v os=>by
   induction os with
   | nil=>intro k a;rfl
   | cons x os ih=>intro k a;unfold fill;simp [ih]
  refine (this _ ops.toList 0 a0).symm.trans (b8 _ _ _ (fun j _ hj=>(rep j).symm) (fun _ _ _=>rfl))
 ·intro i hi hl
  rw [rep] at hl;cases hl
 intro i j _ _ hl;rw [rep] at hl;cases hl
def fK (P:Program) (ops:Array Oper) (Q:Exit->Act->World->Prop) (a0:Act) (T:List Val) (w1:World) (i:Nat) (o:Oper):Prop:=
 match Ds T i with
 | .new B Ty xs=>∀ (a:Act) (w:World),Below w1.heap.size w1 w->(∀ t ∈ o.looksAt ops,nF ops a0 T o a w t)->B<=w.heap.size/\Region.wanted o (yielded ops a.tmps)=true/\(execOp a.eval o).run P w=.ok (.value (.pointer (some ⟨w.heap.size,0,none⟩))) (w.alloc (.cells xs Ty))
 | V=>∀ (a:Act) (w:World),Below w1.heap.size w1 w->(∀ t ∈ o.looksAt ops,nF ops a0 T o a w t)->Does P ops Q V o a w
def Val.gV:Val->Bool
 | .new _ _ _=>true
 | _=>false
def qv (P:Program) (ops:Array Oper) (Q:Exit->Act->World->Prop) (a0:Act) (T:List Val) (w1:World) (n0:Nat):List Oper->Nat->Prop
 | [],_=>True
 | o :: os,k=>(k<n0->fK P ops Q a0 T w1 k o)/\qv P ops Q a0 T w1 n0 os (k+1)
theorem zu {ops:Array Oper} {a0:Act} {T:List Val} {w1:World} {k:Nat} {o:Oper} (h:fK P ops Q a0 T w1 k o):As P Q .any ops (fun w=>Below w1.heap.size w1 w) (fun i v w=>(Ds T i).ok v w) a0 (fun i=>(Ds T i).gV) k o:=by
 intro a w vals hS hv hr
 have hl:∀ t ∈ o.looksAt ops,nF ops a0 T o a w t:=fun t ht=>by
  have:=hr t ht;unfold rd at this;unfold nF
  split
  ·rename_i e he
   rw [he] at this;have h2:=List.find?_some he;rw [Bool.and_eq_true] at h2;exact ⟨_,this,hv e (Array.mem_toList_iff.1 (List.mem_of_find?_eq_some he)) h2.1⟩
  rename_i he
  rw [he] at this;exact this
 unfold vA
 dsimp only
 by_cases hn:(Ds T k).gV=true
 ·cases hT:Ds T k with
  | new B Ty xs=>
   unfold fK at h;rw [hT] at h;obtain ⟨h0,h1,h2⟩:=h a w hS hl;rw [if_pos h1];unfold Oper.wp;rw [h2];refine ⟨_,rfl,⟨w.heap.size,h0,rfl,?_⟩,hS.trans (((DE _ _).alloc (DF _) _).mono hS.size),fun j u hu=>Val.keep ((DE _ _).alloc (DF _) _) _ _ hu,fun _ j u hj hu=>?_⟩
   ·show (w.heap.push _)[w.heap.size]?=_
    simp
   cases hTj:Ds T j with
   | new B' Ty' xs'=>
    rw [hTj] at hu;obtain ⟨g,-,rfl,hg⟩:=hu;intro e;have hlt:=(Array.getElem?_eq_some_iff.1 hg).1
    injection e with e
    injection e with e
    injection e with e
    omega
   | _=>rw [hTj] at hj;cases hj
  | _=>rw [hT] at hn;cases hn
 have h1:Does P ops Q (Ds T k) o a w:=by
  unfold fK at h
  split at h
  ·rename_i hT
   rw [hT] at hn;exact absurd rfl hn
  exact h a w hS hl
 unfold Does at h1
 split
 ·rename_i hw
  rw [if_pos hw] at h1;refine Oper.wp_mono ?_ h1;rintro a' w' ⟨v,e1,e2,e3⟩;exact ⟨v,e1,e2,d_ hS e3,fun j u hu=>Val.keep e3 _ _ hu,fun e=>absurd e hn⟩
 rename_i hw
 rw [if_neg hw] at h1;exact ⟨h1,by simpa using hn⟩
theorem mj {ops:Array Oper} {a0:Act} {T:List Val} {w1:World} {n0:Nat}:∀ (os:List Oper) (k m:Nat),k+m=n0->qv P ops Q a0 T w1 n0 os k->kd P Q .any ops (fun w=>Below w1.heap.size w1 w) (fun i v w=>(Ds T i).ok v w) a0 (fun i=>(Ds T i).gV) (os.take m) k
 | [],_,m,_,_=>by rw [List.take_nil];trivial
 | o :: os,k,0,_,_=>by rw [List.take_zero];trivial
 | o :: os,k,m+1,h,hr=>by rw [List.take_succ_cons];exact ⟨zu (hr.1 (by omega)),mj os (k+1) m (by omega) hr.2⟩
theorem bg {id:Nat} {ops:Array Oper} {a0:Act} {w:World} (n0:Nat) (T:List Val) (hm:P.follows .mixedOrders=true) (hok:fC .any ops a0.tmps.size=true) (ht:ji .any ops n0=true)
  (hR:qv P ops Q a0 T w n0 ops.toList 0)
  (hF:∀ (vals:Nat->Value) (w':World),Below w.heap.size w w'->(∀ i,i<n0->(Ds T i).ok (vals i) w')->(∀ i j,i<n0->j<n0->i≠j->(Ds T i).gV=true->(Ds T j).gV=true->vals i≠vals j)->aX P Q (ops.toList.drop n0) (fill (fun _=>true) vals (ops.toList.take n0) 0 a0) w'):(Code.region id ops true).wp P Q a0 w:=
 zo (fun i=>(Ds T i).gV) (fun w'=>Below w.heap.size w w') (fun i v w'=>(Ds T i).ok v w') hm hok ht ((DE _ w).drew) (mj _ 0 n0 (Nat.zero_add _) hR) hF
theorem bs {p:Value->World->Prop} {v:Value} {w:World} (h:(Val.at p).ok v w):p v w:=h w (DE _ _)
theorem G3 {ops:Array Oper} {o:Oper} {a:Act} {w:World} {G:Bool} {v:Value} {j:Nat} (hg:o.guard=some (j,true)) (hy:yielded ops a.tmps j=some G) (h:G=true->Does P ops Q (.is v) o a w):Does P ops Q (.is (bif G then v else undef)) o a w:=by
 cases G
 ·exact Ae (tX (b:=false) hg hy)
 exact h rfl
theorem F7 {ops:Array Oper} {o:Oper} {a:Act} {w:World} {G:Bool} {v:Value} {j:Nat} (hg:o.guard=some (j,false)) (hy:yielded ops a.tmps j=some G) (h:G=false->Does P ops Q (.is v) o a w):Does P ops Q (.is (bif G then undef else v)) o a w:=by
 cases G
 ·exact h rfl
 exact Ae (tX (b:=true) hg hy)
def vl (ops:Array Oper) (a0:Act) (T:List Val) (o:Oper) (t:Nat):Option Value:=
 match o.after.toList.find? (fun e=>Region.binds .any e && ((ops[e.on]?).bind (·.dst)) == some t) with
 | some e=>match Ds T e.on with
  | .is x=>some x
  | _=>none
 | none=>a0.tmps[t]?
theorem gM {ops:Array Oper} {a0:Act} {T:List Val} {o:Oper} {a:Act} {w:World} {t:Nat} {x:Value} (h:nF ops a0 T o a w t) (hx:vl ops a0 T o t=some x):a.tmps[t]?=some x:=by
 unfold nF at h;unfold vl at hx
 split at h
 ·rename_i e he
  rw [he] at hx
  dsimp only at hx
  split at hx
  ·rename_i y hy
   rw [hy] at h;cases hx
   exact l_ h
  cases hx
 rename_i he
 rw [he] at hx;exact h.trans hx
theorem Ig {ops:Array Oper} {a0:Act} {T:List Val} {w1:World} {i:Nat} {o:Oper} {V:Val} (hy:Ds T i=V) (hn:V.gV=false) (h:∀ (a:Act) (w:World),Below w1.heap.size w1 w->(∀ t ∈ o.looksAt ops,nF ops a0 T o a w t)->Does P ops Q V o a w):fK P ops Q a0 T w1 i o:=by
 unfold fK;rw [hy];cases V
 case new=>cases hn
 all_goals exact h
theorem b0 {ops:Array Oper} {a0:Act} {T:List Val} {w1:World} {n0 i:Nat} {o:Oper} {v:Value} (h:∀ (a:Act) (w:World),Below w1.heap.size w1 w->(execOp a.eval o).run P w=.ok (.value v) w) (hy:Ds T i=.is v:=by rfl) (hn:o.guard=none:=by rfl) (hl:o.looksAt ops=[]:=by rfl):i<n0->fK P ops Q a0 T w1 i o:=fun _=>Ig hy rfl fun a w hB hr=>aW (by unfold Region.wanted;rw [hn]) (h a w hB)
theorem o0 {ops:Array Oper} {a0:Act} {T:List Val} {w1:World} {n0 i:Nat} {o:Oper} {V:Val} (h:∀ (a:Act) (w:World),Below w1.heap.size w1 w->Does P ops Q V o a w) (hy:Ds T i=V:=by rfl) (hn:V.gV=false:=by rfl) (hl:o.looksAt ops=[]:=by rfl):i<n0->fK P ops Q a0 T w1 i o:=fun _=>Ig hy hn fun a w hB hr=>h a w hB
theorem b1 {ops:Array Oper} {a0:Act} {T:List Val} {w1:World} {n0 i:Nat} {o:Oper} {t:Nat} {x:Value} {v:Value} (h:∀ (a:Act) (w:World),Below w1.heap.size w1 w->a.tmps[t]?=some x->(execOp a.eval o).run P w=.ok (.value v) w) (hy:Ds T i=.is v:=by rfl) (hn:o.guard=none:=by rfl) (hl:o.looksAt ops=[t]:=by rfl) (et:vl ops a0 T o t=some x:=by rfl):i<n0->fK P ops Q a0 T w1 i o:=fun _=>Ig hy rfl fun a w hB hr=>aW (by unfold Region.wanted;rw [hn]) (h a w hB (gM (hr t (by rw [hl];simp)) et))
theorem o1 {ops:Array Oper} {a0:Act} {T:List Val} {w1:World} {n0 i:Nat} {o:Oper} {t:Nat} {x:Value} {V:Val} (h:∀ (a:Act) (w:World),Below w1.heap.size w1 w->a.tmps[t]?=some x->Does P ops Q V o a w) (hy:Ds T i=V:=by rfl) (hn:V.gV=false:=by rfl) (hl:o.looksAt ops=[t]:=by rfl) (et:vl ops a0 T o t=some x:=by rfl):i<n0->fK P ops Q a0 T w1 i o:=fun _=>Ig hy hn fun a w hB hr=>h a w hB (gM (hr t (by rw [hl];simp)) et)
theorem b2 {ops:Array Oper} {a0:Act} {T:List Val} {w1:World} {n0 i:Nat} {o:Oper} {t s:Nat} {x y:Value} {v:Value} (h:∀ (a:Act) (w:World),Below w1.heap.size w1 w->a.tmps[t]?=some x->a.tmps[s]?=some y->(execOp a.eval o).run P w=.ok (.value v) w) (hy:Ds T i=.is v:=by rfl) (hn:o.guard=none:=by rfl) (hl:o.looksAt ops=[t,s]:=by rfl) (et:vl ops a0 T o t=some x:=by rfl) (es:vl ops a0 T o s=some y:=by rfl):i<n0->fK P ops Q a0 T w1 i o:=fun _=>Ig hy rfl fun a w hB hr=>aW (by unfold Region.wanted;rw [hn]) (h a w hB (gM (hr t (by rw [hl];simp)) et) (gM (hr s (by rw [hl];simp)) es))
theorem o2 {ops:Array Oper} {a0:Act} {T:List Val} {w1:World} {n0 i:Nat} {o:Oper} {t s:Nat} {x y:Value} {V:Val} (h:∀ (a:Act) (w:World),Below w1.heap.size w1 w->a.tmps[t]?=some x->a.tmps[s]?=some y->Does P ops Q V o a w) (hy:Ds T i=V:=by rfl) (hn:V.gV=false:=by rfl) (hl:o.looksAt ops=[t,s]:=by rfl) (et:vl ops a0 T o t=some x:=by rfl) (es:vl ops a0 T o s=some y:=by rfl):i<n0->fK P ops Q a0 T w1 i o:=fun _=>Ig hy hn fun a w hB hr=>h a w hB (gM (hr t (by rw [hl];simp)) et) (gM (hr s (by rw [hl];simp)) es)
theorem b3 {ops:Array Oper} {a0:Act} {T:List Val} {w1:World} {n0 i:Nat} {o:Oper} {t s u:Nat} {x y z:Value} {v:Value} (h:∀ (a:Act) (w:World),Below w1.heap.size w1 w->a.tmps[t]?=some x->a.tmps[s]?=some y->a.tmps[u]?=some z->(execOp a.eval o).run P w=.ok (.value v) w) (hy:Ds T i=.is v:=by rfl) (hn:o.guard=none:=by rfl) (hl:o.looksAt ops=[t,s,u]:=by rfl) (et:vl ops a0 T o t=some x:=by rfl) (es:vl ops a0 T o s=some y:=by rfl) (eu:vl ops a0 T o u=some z:=by rfl):i<n0->fK P ops Q a0 T w1 i o:=fun _=>Ig hy rfl fun a w hB hr=>aW (by unfold Region.wanted;rw [hn]) (h a w hB (gM (hr t (by rw [hl];simp)) et) (gM (hr s (by rw [hl];simp)) es) (gM (hr u (by rw [hl];simp)) eu))
theorem o3 {ops:Array Oper} {a0:Act} {T:List Val} {w1:World} {n0 i:Nat} {o:Oper} {t s u:Nat} {x y z:Value} {V:Val} (h:∀ (a:Act) (w:World),Below w1.heap.size w1 w->a.tmps[t]?=some x->a.tmps[s]?=some y->a.tmps[u]?=some z->Does P ops Q V o a w) (hy:Ds T i=V:=by rfl) (hn:V.gV=false:=by rfl) (hl:o.looksAt ops=[t,s,u]:=by rfl) (et:vl ops a0 T o t=some x:=by rfl) (es:vl ops a0 T o s=some y:=by rfl) (eu:vl ops a0 T o u=some z:=by rfl):i<n0->fK P ops Q a0 T w1 i o:=fun _=>Ig hy hn fun a w hB hr=>h a w hB (gM (hr t (by rw [hl];simp)) et) (gM (hr s (by rw [hl];simp)) es) (gM (hr u (by rw [hl];simp)) eu)
end Rg
end
section
open Go.RowKit
def aG (W:World) (g:Nat) (T:TypeId) (xs:Array Value):Prop:=W.heap[g]?=some (.cells xs T (0,0))
namespace aG
variable {W W':World} {g:Nat} {T:TypeId} {xs:Array Value}
theorem lt (h:aG W g T xs):g<W.heap.size:=(Array.getElem?_eq_some_iff.1 h).1
theorem keep (h:aG W g T xs) (hb:Below W.heap.size W W'):aG W' g T xs:=(hb.block g h.lt).trans h
theorem new (w:World) (xs:Array Value) (T:TypeId):aG (w.alloc (.cells xs T)) w.heap.size T xs:=by
 show (w.heap.push (.cells xs T))[w.heap.size]?=_
 simp
theorem alloc (h:aG W g T xs) (o:Obj):aG (W.alloc o) g T xs:=h.keep ((DE _ _).alloc (DF _) o)
theorem drew (h:aG W g T xs):aG W.drew g T xs:=h
theorem cell (h:aG W g T xs) (i:Nat):W.cell? ⟨g,i,none⟩=xs[i]?:=by
 unfold aG at h;simp [World.cell?,h]
theorem DJ (h:aG W g T xs) (i:Nat):W.frozen? ⟨g,i,none⟩=false:=by
 unfold aG at h;simp [World.frozen?,h]
theorem set (h:aG W g T xs) (i:Nat) (x:Value):aG (W.setCell ⟨g,i,none⟩ x) g T (xs.setIfInBounds i x):=by
 have hl:=h.lt;unfold aG at *;rw [World.setCell]
 show (W.heap.modify g _)[g]?=_
 rw [Array.getElem?_modify,if_pos rfl,h];rfl
theorem other (h:aG W g T xs) {k i:Nat} (hk:g≠k) (x:Value):aG (W.setCell ⟨k,i,none⟩ x) g T xs:=by
 unfold aG at *;rw [World.setCell]
 show (W.heap.modify k _)[g]?=_
 rw [Array.getElem?_modify,if_neg (fun e=>hk e.symm),h]
theorem box {u v:Value} (h:aG W g T #[u,v]):ay W g u v:=⟨h.cell 0,h.cell 1,h.DJ 0,h.DJ 1,h.lt⟩
theorem aL {u v x y:Value} (h:aG W g T #[u,v,x,y]):jJ W g u v x y:=by
 refine ⟨h.cell 0,h.cell 1,h.cell 2,h.cell 3,h.DJ 0,h.DJ 1,h.DJ 2,h.DJ 3,h.lt⟩
theorem set2 {u v:Value} (h:aG W g T #[u,v]) (x y:Value):aG ((W.setCell ⟨g,0,none⟩ x).setCell ⟨g,1,none⟩ y) g T #[x,y]:=(h.set 0 x).set 1 y
theorem mJ {u v p q:Value} (h:aG W g T #[u,v,p,q]) (x y z t:Value):aG ((((W.setCell ⟨g,0,none⟩ x).setCell ⟨g,1,none⟩ y).setCell ⟨g,2,none⟩ z).setCell ⟨g,3,none⟩ t) g T #[x,y,z,t]:=(((h.set 0 x).set 1 y).set 2 z).set 3 t
theorem b2 {u v:Value} (h:aG W g T #[u,v]):W.cell? ⟨g,0,none⟩=some u/\W.cell? ⟨g,1,none⟩=some v:=⟨h.cell 0,h.cell 1⟩
theorem EK {u v:Value} (h:aG W g T #[u,v]):W.cell? ⟨g,0,none⟩=some u/\W.cell? ⟨g,1,none⟩=some v/\W.frozen? ⟨g,0,none⟩=false/\W.frozen? ⟨g,1,none⟩=false:=⟨h.cell 0,h.cell 1,h.DJ 0,h.DJ 1⟩
theorem b4 {u v x y:Value} (h:aG W g T #[u,v,x,y]):W.cell? ⟨g,0,none⟩=some u/\W.cell? ⟨g,1,none⟩=some v/\W.cell? ⟨g,2,none⟩=some x/\W.cell? ⟨g,3,none⟩=some y:=⟨h.cell 0,h.cell 1,h.cell 2,h.cell 3⟩
theorem Da {u v x y:Value} (h:aG W g T #[u,v,x,y]):W.cell? ⟨g,0,none⟩=some u/\W.cell? ⟨g,1,none⟩=some v/\W.cell? ⟨g,2,none⟩=some x/\W.cell? ⟨g,3,none⟩=some y/\W.frozen? ⟨g,0,none⟩=false/\W.frozen? ⟨g,1,none⟩=false/\W.frozen? ⟨g,2,none⟩=false/\W.frozen? ⟨g,3,none⟩=false:=⟨h.cell 0,h.cell 1,h.cell 2,h.cell 3,h.DJ 0,h.DJ 1,h.DJ 2,h.DJ 3⟩
theorem one {u:Value} (h:aG W g T #[u]) (x:Value):aG (W.setCell ⟨g,0,none⟩ x) g T #[x]:=h.set 0 x
end aG
theorem bA (w:World) (o:Obj):Below w.heap.size w (w.alloc o):=(DE _ w).alloc (DF _) o
theorem dD (w:World) (xs1:Array Value) (T1:TypeId):∃ wc,w.alloc (.cells xs1 T1)=wc/\aG wc w.heap.size T1 xs1/\Below w.heap.size w wc:=
 ⟨_,rfl,aG.new w xs1 T1,bA w _⟩
theorem fR (w:World) (xs1:Array Value) (T1:TypeId) (xs2:Array Value) (T2:TypeId):∃ wc,(w.alloc (.cells xs1 T1)).alloc (.cells xs2 T2)=wc/\aG wc w.heap.size T1 xs1/\aG wc (w.heap.size+1) T2 xs2/\Below w.heap.size w wc:=by
 obtain ⟨wc,rfl,h1,hb⟩:=dD w xs1 T1;have h2:=aG.new (w.alloc (.cells xs1 T1)) xs2 T2;rw [DC] at h2;exact ⟨_,rfl,h1.alloc _,h2,hb.alloc hb.size _⟩
theorem cZ (w:World) (xs1:Array Value) (T1:TypeId) (xs2:Array Value) (T2:TypeId) (Ij:Array Value) (T3:TypeId):∃ wc,((w.alloc (.cells xs1 T1)).alloc (.cells xs2 T2)).alloc (.cells Ij T3)=wc/\aG wc w.heap.size T1 xs1/\aG wc (w.heap.size+1) T2 xs2/\aG wc (w.heap.size+1+1) T3 Ij/\Below w.heap.size w wc:=by
 obtain ⟨wc,rfl,h1,h2,hb⟩:=fR w xs1 T1 xs2 T2;have h3:=aG.new ((w.alloc (.cells xs1 T1)).alloc (.cells xs2 T2)) Ij T3;rw [DC,DC] at h3;exact ⟨_,rfl,h1.alloc _,h2.alloc _,h3,hb.alloc hb.size _⟩
theorem di (w:World) (xs1:Array Value) (T1:TypeId) (xs2:Array Value) (T2:TypeId) (Ij:Array Value) (T3:TypeId) (RX:Array Value) (T4:TypeId):∃ wc,(((w.alloc (.cells xs1 T1)).alloc (.cells xs2 T2)).alloc (.cells Ij T3)).alloc (.cells RX T4)=wc/\aG wc w.heap.size T1 xs1/\aG wc (w.heap.size+1) T2 xs2/\aG wc (w.heap.size+1+1) T3 Ij/\aG wc (w.heap.size+1+1+1) T4 RX/\Below w.heap.size w wc:=by
 obtain ⟨wc,rfl,h1,h2,h3,hb⟩:=cZ w xs1 T1 xs2 T2 Ij T3;have h4:=aG.new (((w.alloc (.cells xs1 T1)).alloc (.cells xs2 T2)).alloc (.cells Ij T3)) RX T4;rw [DC,DC,DC] at h4;exact ⟨_,rfl,h1.alloc _,h2.alloc _,h3.alloc _,h4,hb.alloc hb.size _⟩
theorem aF.apart {W:World} {base g:Nat} {T:TypeId} {sl:Value} {xs:List Int} {ys:Array Value} (h:aF W base sl xs) (hv:aG W g T ys) (hT:T≠3):sl.ownBlock≠some g:=by
 intro e;obtain ⟨-,h⟩:=h
 rcases h with ⟨rfl,-⟩ | ⟨g',cap,cur,rfl,-,hh,-⟩
 ·simp [Value.ownBlock] at e
 simp only [Value.ownBlock,Option.some.injEq] at e;subst e;unfold aG at hv;rw [hv] at hh
 injection hh with hh
 injection hh with _ h2
 exact hT h2
theorem aF.dn {W:World} {base g i:Nat} {T:TypeId} {sl:Value} {xs:List Int} {ys:Array Value} (h:aF W base sl xs) (hv:aG W g T ys) (hT:T≠3) (x:Value):aF (W.setCell ⟨g,i,none⟩ x) base sl xs:=by
 refine World.ownsRow.kept (row:=some g) h ⟨rfl,rfl,rfl,by simp [go_sem],fun k hk hne=>?_⟩ (by
  cases hs:sl.ownBlock with
  | none=>exact Or.inl rfl
  | some k=>exact Or.inr fun e=>h.apart hv hT (by rw [hs];exact e))
 rw [World.setCell]
 show (W.heap.modify g _)[k]?=_
 rw [Array.getElem?_modify,if_neg (fun e=>hne (by rw [e]))]
theorem aF.bG {W:World} {base g:Nat} {T:TypeId} {sl:Value} {xs:List Int} {u v:Value} (h:aF W base sl xs) (hv:aG W g T #[u,v]) (hT:T≠3) (x y:Value):aF ((W.setCell ⟨g,0,none⟩ x).setCell ⟨g,1,none⟩ y) base sl xs:=
 (h.dn hv hT x).dn (hv.set 0 x) hT y
theorem aF.dI {W:World} {base g:Nat} {T:TypeId} {sl:Value} {xs:List Int} {u v p q:Value} (h:aF W base sl xs) (hv:aG W g T #[u,v,p,q]) (hT:T≠3) (x y z t:Value):aF ((((W.setCell ⟨g,0,none⟩ x).setCell ⟨g,1,none⟩ y).setCell ⟨g,2,none⟩ z).setCell ⟨g,3,none⟩ t) base sl xs:=
 (((h.dn hv hT x).dn (hv.set 0 x) hT y).dn ((hv.set 0 x).set 1 y) hT z).dn (((hv.set 0 x).set 1 y).set 2 z) hT t
theorem kO {w w':World} {base:Nat} {sl:Value} {xs:List Int} (h:Hid (aF w base sl xs)) (hb:Below w.heap.size w w'):Hid (aF w' base sl xs):=DB (aF.below h.out hb)
theorem sO {W:World} {base g:Nat} {T:TypeId} {sl:Value} {xs:List Int} {u v:Value} (h:Hid (aF W base sl xs)) (hv:aG W g T #[u,v]) (hT:T≠3) (x y:Value):Hid (aF ((W.setCell ⟨g,0,none⟩ x).setCell ⟨g,1,none⟩ y) base sl xs):=DB (h.out.bG hv hT x y)
def aI (base:Nat) (z:Int) (v:Value) (W:World):Prop:=∃ sl,v=.agg #[decide (z<0),sl]/\aF W base sl (Wh.a_ z.natAbs)
theorem aI.view {base:Nat} {z:Int} {v:Value} {W:World} (h:aI base z v W):∃ (s:Bool) (a:Option Addr) (l c:Nat),Hid (s=decide (z<0))/\v=.agg #[s,.slice a l c]/\aF W base (.slice a l c) (Wh.a_ z.natAbs):=by
 obtain ⟨sl,rfl,ho⟩:=h;obtain ⟨a,c,rfl,-,-⟩:=aF.view ho;exact ⟨_,a,_,c,DB rfl,rfl,ho⟩
theorem aI.Mp {base k:Nat} {z:Int} {sl:Value} {W:World} (h:aF W k sl (Wh.a_ z.natAbs)) (hk:base<=k):(Rg.Val.at (aI base z)).ok (.agg #[decide (z<0),sl]) W:=fun _ hb=>⟨sl,rfl,(aF.below h hb).base hk⟩
theorem aI.at {base k:Nat} {z:Int} {sl:Value} {W:World} (h:ae W k sl z) (hk:base<=k):(Rg.Val.at (aI base z)).ok (.agg #[decide (z<0),sl]) W:=aI.Mp h hk
theorem aI.get {a:Option Value} {base:Nat} {z:Int} {W:World} (h:∃ v,a=some v/\(Rg.Val.at (aI base z)).ok v W):∃ (s:Bool) (A:Option Addr) (l c:Nat),Hid (s=decide (z<0))/\a=some (.agg #[s,.slice A l c])/\aF W base (.slice A l c) (Wh.a_ z.natAbs):=by
 obtain ⟨v,h1,h2⟩:=h;obtain ⟨s,A,l,c,hs,rfl,o⟩:=(Rg.bs h2).view;exact ⟨s,A,l,c,hs,h1,o⟩
theorem aI.ret {P:Program} {f:FuncId} {args:Array Value} {w1 W:World} {z:Int} (hB:Below w1.heap.size w1 W) (h:Calls P f args W fun e w'=>∃ sl,e=.returned (.agg #[decide (z<0),sl])/\ae w' W.heap.size sl z/\Below W.heap.size W w') :
  Calls P f args W fun e w'=>∃ v,e=.returned v/\(Rg.Val.at (aI w1.heap.size z)).ok v w'/\Below W.heap.size W w':=
 h.mono fun _ _ ⟨_,h1,h2,h3⟩=>⟨_,h1,aI.at h2 hB.size,h3⟩
def yU (base:Nat) (z r:Int) (v:Value) (W:World):Prop:=∃ sl,v=.tuple #[.agg #[decide (z<0),sl],r]/\aF W base sl (Wh.a_ z.natAbs)
theorem yU.view {base:Nat} {z r:Int} {v:Value} {W:World} (h:yU base z r v W):∃ (s:Bool) (a:Option Addr) (l c:Nat),Hid (s=decide (z<0))/\v=.tuple #[.agg #[s,.slice a l c],r]/\aF W base (.slice a l c) (Wh.a_ z.natAbs):=by
 obtain ⟨sl,rfl,ho⟩:=h;obtain ⟨a,c,rfl,-,-⟩:=aF.view ho;exact ⟨_,a,_,c,DB rfl,rfl,ho⟩
theorem yU.at {base k:Nat} {z r:Int} {sl:Value} {W:World} (h:ae W k sl z) (hk:base<=k):(Rg.Val.at (yU base z r)).ok (.tuple #[.agg #[decide (z<0),sl],r]) W:=fun _ hb=>⟨sl,rfl,(aF.below h hb).base hk⟩
def br (base:Nat) (zs:List Int) (v:Value) (W:World):Prop:=∃ g,v=.slice (some ⟨g,0,none⟩) zs.length zs.length/\bk W g zs
inductive bU (W:World):List Int->List Value->Prop where
 | nil:bU W [] []
 | cons {z:Int} {zs:List Int} {s:Bool} {a:Option Addr} {l c b:Nat} {us:List Value} (hs:s=decide (z<0)) (ho:aF W b (.slice a l c) (Wh.a_ z.natAbs)) (h:bU W zs us):bU W (z :: zs) (.bool s :: .slice a l c :: us)
theorem bU.get {W:World}:∀ {zs:List Int} {us:List Value},bU W zs us->∀ (k:Nat) (z:Int),zs[k]?=some z->∃ (a:Option Addr) (cap:Nat),us[k*2]?=some (.bool (decide (z<0)))/\us[k*2+1]?=some (.slice a (Wh.a_ z.natAbs).length cap)/\aF W 0 (.slice a (Wh.a_ z.natAbs).length cap) (Wh.a_ z.natAbs)
 | _,_,.nil,k,z,h=>by simp at h
 | _,_,.cons (l:=l) hs ho hr,0,z,h=>by
  simp only [List.getElem?_cons_zero,Option.some.injEq] at h;subst h;subst hs;obtain ⟨a',c',e,-,-⟩:=aF.view ho
  injection e with e1 e2 e3
  subst e1 e2 e3;exact ⟨_,_,rfl,rfl,ho.base (Nat.zero_le _)⟩
 | _,_,.cons hs ho hr,k+1,z,h=>by
  obtain ⟨a,cap,h1,h2,h3⟩:=hr.get k z (by simpa using h);refine ⟨a,cap,?_,?_,h3⟩
  ·rw [show (k+1)*2=k*2+1+1 by omega];simpa using h1
  rw [show (k+1)*2+1=k*2+1+1+1 by omega];simpa using h2
theorem br.at {base:Nat} {zs:List Int} {us:List Value} {W:World} {T:TypeId} {n:Nat} (hb:base<=W.heap.size) (h:bU W zs us) (hn:n=zs.length):(Rg.Val.at (br base zs)).ok (.slice (some ⟨W.heap.size,0,none⟩) n n) (W.alloc (.cells us.toArray T)):=by
 subst hn
 refine fun w' hb'=>⟨W.heap.size,rfl,fun k z hz=>?_⟩
 obtain ⟨a,cap,h1,h2,h3⟩:=h.get k z hz;have hv:=(aG.new W us.toArray T).keep hb';refine ⟨a,cap,(hv.cell _).trans (by simpa using h1),(hv.cell _).trans (by simpa using h2),aF.below (aF.alloc h3 _) hb'⟩
def CM (base:Nat) (T:TypeId) (xs:Array Value) (v:Value) (W:World):Prop:=∃ g,base<=g/\v=.pointer (some ⟨g,0,none⟩)/\aG W g T xs
theorem CM.at {base:Nat} {T:TypeId} {xs:Array Value} {W:World} (hb:base<=W.heap.size):(Rg.Val.at (CM base T xs)).ok (.pointer (some ⟨W.heap.size,0,none⟩)) (W.alloc (.cells xs T)):=
 fun _ hb'=>⟨_,hb,rfl,(aG.new W xs T).keep hb'⟩
theorem Rg.Bl {P:Program} {Q:Exit->Act->World->Prop} {ops:Array Oper} {o:Oper} {a:Act} {w:World} {x:Value} {V:Rg.Val} (hw:Region.wanted o (yielded ops a.tmps)=true) (h:(execOp a.eval o).run P w=.ok (.value x) w) (hV:V.ok x w):Rg.Does P ops Q V o a w:=by
 unfold Rg.Does;rw [if_pos hw];unfold Oper.wp;rw [h];exact ⟨x,rfl,hV,DE _ _⟩
theorem qk (w3:World) (n:Nat) (hn:w3.heap.size=n) (u v x y:Value) (T:TypeId) :
  (∃ gx gz,n<=gx/\n<=gz/\Value.pointer (some ⟨n,0,none⟩)=.pointer (some ⟨gx,0,none⟩)/\Value.pointer (some ⟨n+1,0,none⟩)=.pointer (some ⟨gz,0,none⟩)/\aG ((w3.alloc (.cells #[u,v] T)).alloc (.cells #[x,y] T)).drew gx T #[u,v]/\aG ((w3.alloc (.cells #[u,v] T)).alloc (.cells #[x,y] T)).drew gz T #[x,y]/\Below n w3 ((w3.alloc (.cells #[u,v] T)).alloc (.cells #[x,y] T)).drew)/\
  (∃ gx gz,n<=gx/\n<=gz/\Value.pointer (some ⟨n+1,0,none⟩)=.pointer (some ⟨gx,0,none⟩)/\Value.pointer (some ⟨n,0,none⟩)=.pointer (some ⟨gz,0,none⟩)/\aG ((w3.alloc (.cells #[u,v] T)).alloc (.cells #[x,y] T)).drew gx T #[x,y]/\aG ((w3.alloc (.cells #[u,v] T)).alloc (.cells #[x,y] T)).drew gz T #[u,v]/\Below n w3 ((w3.alloc (.cells #[u,v] T)).alloc (.cells #[x,y] T)).drew):=by
 subst hn;have h1:aG ((w3.alloc (.cells #[u,v] T)).alloc (.cells #[x,y] T)).drew w3.heap.size T #[u,v]:=(aG.new w3 #[u,v] T).alloc _
 have h2:aG ((w3.alloc (.cells #[u,v] T)).alloc (.cells #[x,y] T)).drew (w3.heap.size+1) T #[x,y]:=by
  have:=aG.new (w3.alloc (.cells #[u,v] T)) #[x,y] T;rw [DC] at this;exact this
 have hb:Below w3.heap.size w3 ((w3.alloc (.cells #[u,v] T)).alloc (.cells #[x,y] T)).drew:=(((DE _ _).alloc (DF _) _).alloc (by rw [DC];omega) _).drew;exact ⟨⟨_,_,DF _,Nat.le_succ _,rfl,rfl,h1,h2,hb⟩,⟨_,_,Nat.le_succ _,DF _,rfl,rfl,h2,h1,hb⟩⟩
theorem iO (a b x z:Int) (vx vz:Value) (w:World) (bx bz:Nat) (hox:ae w bx vx x) (Dl:ae w bz vz z) (hx:Wh.sz x 1000) (hz:Wh.sz z 1000) (ha1:-1000<=a) (ha2:a<=1000) (hb1:-10000<=b) (hb2:b<=10000) :
  Calls Tryz.prog 182 #[.agg #[a,b],.agg #[decide (x<0),vx,decide (z<0),vz]] w fun e w'=>∃ sl,e=.returned (.agg #[decide (Wh.am a b x z<0),sl])/\ae w' w.heap.size sl (Wh.am a b x z)/\Below w.heap.size w w':=by
 obtain ⟨ax,cx,rfl,-,-⟩:=aF.view hox;obtain ⟨az,cz,rfl,-,-⟩:=aF.view Dl;have hq1:Wh.sz (-2*a) 1000:=Wh.aM (Wh.bP (by omega) (by omega)) (by omega);have hq2:Wh.sz (-8*b) 1000:=Wh.aM (Wh.bP (by omega) (by omega)) (by omega);have haa:-1000000<=a*a/\a*a<=1000000:=M.aH (x:=a) (y:=a) (m:=1000) (n:=1000);have hq3:Wh.sz (a*a) 1000:=Wh.aM (Wh.bP (by omega) (by omega)) (by omega)
 have mm:∀ (l:List Int),(∀ y ∈ l,Wh.sz y 1000)->l.length<=5->∀ k,Wh.small ((l.take k).foldl (·*·) 1):=fun l h hl k=>Wh.cE (Wh.aM (Wh.jG h k) (show 1+l.length*1000<=8000 by omega)) (by omega)
 have mp:∀ (l:List Int),(∀ y ∈ l,Wh.sz y 1000)->l.length<=5->Wh.sz (l.foldl (·*·) 1) 6000:=fun l h hl=>by have:=Wh.jG h l.length;rw [List.take_length] at this;exact Wh.aM this (by omega)
 have m0:∀ (l:List Int),(∀ y ∈ l,Wh.sz y 1000)->∀ y ∈ l,Wh.small y:=fun l h y hy=>Wh.cE (h y hy) (by omega)
 have m1:∀ y ∈ ([x,x,x,x]:List Int),Wh.sz y 1000:=by intro y h;simp only [List.mem_cons,List.not_mem_nil,or_false] at h;rcases h with h | h | h | h <;> (subst h;assumption)
 have R1:=fun g cap W (h:bk W g [x,x,x,x])=>bR [x,x,x,x] g cap W h (by simp) (m0 _ m1) (mm _ m1 (by simp))
 have p1:=mp _ m1 (by simp)
 have m2:∀ y ∈ ([-2*a,x,x,z,z]:List Int),Wh.sz y 1000:=by intro y h;simp only [List.mem_cons,List.not_mem_nil,or_false] at h;rcases h with h | h | h | h | h <;> (subst h;assumption)
 have R2:=fun g cap W (h:bk W g [-2*a,x,x,z,z])=>bR [-2*a,x,x,z,z] g cap W h (by simp) (m0 _ m2) (mm _ m2 (by simp))
 have p2:=mp _ m2 (by simp)
 have m3:∀ y ∈ ([-8*b,x,z,z,z]:List Int),Wh.sz y 1000:=by intro y h;simp only [List.mem_cons,List.not_mem_nil,or_false] at h;rcases h with h | h | h | h | h <;> (subst h;assumption)
 have R3:=fun g cap W (h:bk W g [-8*b,x,z,z,z])=>bR [-8*b,x,z,z,z] g cap W h (by simp) (m0 _ m3) (mm _ m3 (by simp))
 have p3:=mp _ m3 (by simp)
 have m4:∀ y ∈ ([a*a,z,z,z,z]:List Int),Wh.sz y 1000:=by intro y h;simp only [List.mem_cons,List.not_mem_nil,or_false] at h;rcases h with h | h | h | h | h <;> (subst h;assumption)
 have R4:=fun g cap W (h:bk W g [a*a,z,z,z,z])=>bR [a*a,z,z,z,z] g cap W h (by simp) (m0 _ m4) (mm _ m4 (by simp))
 have p4:=mp _ m4 (by simp);have hT:=Wh.um a b x z;generalize hp1:([x,x,x,x]:List Int).foldl (·*·) 1=Fp at *;generalize hp2:([-2*a,x,x,z,z]:List Int).foldl (·*·) 1=Fq at *;generalize hp3:([-8*b,x,z,z,z]:List Int).foldl (·*·) 1=Fr at *;generalize LF:([a*a,z,z,z,z]:List Int).foldl (·*·) 1=KK at *
 have ms:∀ y ∈ [Fp,Fq,Fr,KK],Wh.sz y 6000:=by intro y h;simp only [List.mem_cons,List.not_mem_nil,or_false] at h;rcases h with h | h | h | h <;> (subst h;assumption)
 have R5:=fun g cap W (h:bk W g [Fp,Fq,Fr,KK])=>jx [Fp,Fq,Fr,KK] g cap W h (by simp) (fun y hy=>Wh.cE (ms y hy) (by omega)) (fun k=>Wh.cE (Wh.aM (Wh.pG ms (by omega) k) (show 6000+4<=7000 by omega)) (by omega))
 rw [hT] at R5
 have N1:=fun W=>bX (-2*a) W (by omega) (by omega)
 have N2:=fun W=>bX (-8*b) W (by omega) (by omega)
 have N3:=fun W=>bX (a*a) W (by omega) (by omega)
 have i1:IntKind.i64.wrap (-2*a)=-2*a:=IntWalk.i64_in _ (by omega);have i2:IntKind.i64.wrap (-8*b)=-8*b:=IntWalk.i64_in _ (by omega);have i3:IntKind.i64.wrap (a*a)=a*a:=IntWalk.i64_in _ (by omega);clear m1 m2 m3 m4 p1 p2 p3 p4 hp1 hp2 hp3 LF ms mm mp m0 hT;replace R1:=DB R1;replace R2:=DB R2;replace R3:=DB R3;replace R4:=DB R4;replace R5:=DB R5;replace N1:=DB N1;replace N2:=DB N2;replace N3:=DB N3;replace i1:=DB i1;replace i2:=DB i2;replace i3:=DB i3;generalize hF:Wh.am a b x z=F at *;clear hF;generalize hs1:decide (x<0)=s1 at *;replace hs1:=DB hs1.symm;generalize hs2:decide (z<0)=s2 at *;replace hs2:=DB hs2.symm;replace hox:=DB (show aF _ _ _ _ from hox);replace Dl:=DB (show aF _ _ _ _ from Dl);generalize (Wh.a_ z.natAbs).length=lz,(Wh.a_ x.natAbs).length=lx at *;obtain ⟨w3,hw3,b1,b2,b3,hB⟩:=cZ w #[a,b] 25 #[s1,.slice ax lx cx,s2,.slice az lz cz] 174 #[false,.slice none 0 0] 116;have En:=DB (aF.below hox.out hB);have Eo:=DB (aF.below Dl.out hB)
 have hz3:w3.heap.size=w.heap.size+3:=by rw [←hw3,DC,fm]
 clear hox Dl;have e0:=b2.aL.c0;have e1:=b2.aL.c1;have e2:=b2.aL.c2;have e3:=b2.aL.c3;go_enter Tryz.func182,Tryz.ntmps182
 go_wp2
 go_upto_region 1 with fail
 go_cut [5,6] (fun p q wx=>∃ gx gz,w.heap.size+3<=gx/\w.heap.size+3<=gz/\p=.pointer (some ⟨gx,0,none⟩)/\q=.pointer (some ⟨gz,0,none⟩)/\aG wx gx 116 #[s1,.slice ax lx cx]/\aG wx gz 116 #[s2,.slice az lz cz]/\Below (w.heap.size+3) w3 wx)
 case first=>
  go_region
  all_goals
   go_wp2_with fail
   go_meet
   first
   | exact (qk _ _ hz3 _ _ _ _ _).1
   | exact (qk _ _ hz3 _ _ _ _ _).2
 case rest=>
 obtain ⟨gx,gz,hgx,hgz,rfl,rfl,X,Z,hbx⟩:=hcut;rw [←hz3] at hbx;have ox:=DB (aF.below En.out hbx);have oz:=DB (aF.below Eo.out hbx);have C:=b1.keep hbx;have R:=b3.keep hbx;have hw:=d_ hB hbx
 have Fm:w.heap.size+3<=wc.heap.size:=by have:=hbx.size;omega
 clear hz3;clear b1 b2 b3 e0 e1 e2 e3 hB hbx En Eo
 go_upto_region 2 with fail
 refine Rg.bg 40 [.is (.agg #[s1,.slice ax lx cx]),.is (.agg #[s1,.slice ax lx cx]),.is (.agg #[s1,.slice ax lx cx]),.is (.agg #[s1,.slice ax lx cx]),.at (br (wc.heap.size) [x,x,x,x]),.at (aI (wc.heap.size) (Fp)),.is (.pointer (some ⟨w.heap.size,0,none⟩)),.is a,.is ((-2)*a:Int),.at (aI (wc.heap.size) (-2*a)),.is (.agg #[s1,.slice ax lx cx]),.is (.agg #[s1,.slice ax lx cx]),.is (.agg #[s2,.slice az lz cz]),.is (.agg #[s2,.slice az lz cz]),.at (br (wc.heap.size) [-2*a,x,x,z,z]),.at (aI (wc.heap.size) (Fq)),.is (.pointer (some ⟨w.heap.size,1,none⟩)),.is b,.is ((-8)*b:Int),.at (aI (wc.heap.size) (-8*b)),.is (.agg #[s1,.slice ax lx cx]),.is (.agg #[s2,.slice az lz cz]),.is (.agg #[s2,.slice az lz cz]),.is (.agg #[s2,.slice az lz cz]),.at (br (wc.heap.size) [-8*b,x,z,z,z]),.at (aI (wc.heap.size) (Fr)),.is (.pointer (some ⟨w.heap.size,0,none⟩)),.is a,.is (.pointer (some ⟨w.heap.size,0,none⟩)),.is a,.is (a*a:Int),.at (aI (wc.heap.size) (a*a)),.is (.agg #[s2,.slice az lz cz]),.is (.agg #[s2,.slice az lz cz]),.is (.agg #[s2,.slice az lz cz]),.is (.agg #[s2,.slice az lz cz]),.at (br (wc.heap.size) [a*a,z,z,z,z]),.at (aI (wc.heap.size) (KK)),.at (br (wc.heap.size) [Fp,Fq,Fr,KK]),.at (aI (wc.heap.size) (F))] (by kernel_rfl) (by kernel_rfl) (by kernel_rfl) ⟨?_,?_,?_,?_,?_,?_,?_,?_,?_,?_,?_,?_,?_,?_,?_,?_,?_,?_,?_,?_,?_,?_,?_,?_,?_,?_,?_,?_,?_,?_,?_,?_,?_,?_,?_,?_,?_,?_,?_,?_,fun h_=>absurd h_ (by decide),trivial⟩ ?_
 all_goals try ((first | (refine Rg.b1 ?_;intro zZ w_ hB e) | (refine Rg.b2 ?_;intro zZ w_ hB e f));have kz:=aE hB X.box.c0;have kz:=aE hB X.box.c1;have kz:=aE hB C.box.c0;have ec:=Rg.ec zZ;have kz:=aE hB Z.box.c0;have kz:=aE hB Z.box.c1;have kz:=aE hB C.box.c1;(first | (go_simp;done) | (go_simp;exact Rg.wo (by omega))))
 ·intro _ zZ w_ hB hr
  have e11:=Rg.l_ (hr 11 (by decide));have e12:=Rg.l_ (hr 12 (by decide));have e13:=Rg.l_ (hr 13 (by decide));have e14:=Rg.l_ (hr 14 (by decide));refine Rg.mC rfl (x:=.slice (some ⟨w_.heap.size,0,none⟩) 4 4) (ob:=.cells (List.toArray [.bool s1,.slice ax lx cx,.bool s1,.slice ax lx cx,.bool s1,.slice ax lx cx,.bool s1,.slice ax lx cx]) 116) (by first | (go_simp;done) | (go_simp;exact ⟨rfl,rfl⟩) | (go_simp;rfl)) (br.at (by have:=hB.size;omega) ?_ rfl);exact bU.cons hs1.out (aF.below ox.out hB) (bU.cons hs1.out (aF.below ox.out hB) (bU.cons hs1.out (aF.below ox.out hB) (bU.cons hs1.out (aF.below ox.out hB) (bU.nil))))
 ·intro _ zZ w_ hB hr
  obtain ⟨v15,e15,n15⟩:∃ v,zZ.tmps[15]?=some v/\(Rg.Val.at (br (wc.heap.size) [x,x,x,x])).ok v w_:=hr 15 (by decide);obtain ⟨g15,rfl,Ie⟩:=Rg.bs n15;have ef:=Rg.ef zZ;refine Rg.ah rfl (by go_simp;exact ⟨rfl,rfl⟩) ?_;exact aI.ret hB (R1.out _ _ _ Ie)
 ·refine Rg.o1 ?_;intro zZ w_ hB e
  have ef:=Rg.ef zZ;refine Rg.ah rfl (by go_simp;exact ⟨rfl,rfl⟩) ?_;exact aI.ret hB (N1.out _)
 ·intro _ zZ w_ hB hr
  obtain ⟨s20,a20,l20,c20,QS,e20,o20⟩:=aI.get (hr 20 (by decide));have e21:=Rg.l_ (hr 21 (by decide));have e22:=Rg.l_ (hr 22 (by decide));have e23:=Rg.l_ (hr 23 (by decide));have e24:=Rg.l_ (hr 24 (by decide));refine Rg.mC rfl (x:=.slice (some ⟨w_.heap.size,0,none⟩) 5 5) (ob:=.cells (List.toArray [.bool s20,.slice a20 l20 c20,.bool s1,.slice ax lx cx,.bool s1,.slice ax lx cx,.bool s2,.slice az lz cz,.bool s2,.slice az lz cz]) 116) (by first | (go_simp;done) | (go_simp;exact ⟨rfl,rfl⟩) | (go_simp;rfl)) (br.at (by have:=hB.size;omega) ?_ rfl);exact bU.cons QS.out o20 (bU.cons hs1.out (aF.below ox.out hB) (bU.cons hs1.out (aF.below ox.out hB) (bU.cons hs2.out (aF.below oz.out hB) (bU.cons hs2.out (aF.below oz.out hB) (bU.nil)))))
 ·intro _ zZ w_ hB hr
  obtain ⟨v25,e25,n25⟩:∃ v,zZ.tmps[25]?=some v/\(Rg.Val.at (br (wc.heap.size) [-2*a,x,x,z,z])).ok v w_:=hr 25 (by decide);obtain ⟨g25,rfl,MZ⟩:=Rg.bs n25;have ef:=Rg.ef zZ;refine Rg.ah rfl (by go_simp;exact ⟨rfl,rfl⟩) ?_;exact aI.ret hB (R2.out _ _ _ MZ)
 ·refine Rg.o1 ?_;intro zZ w_ hB e
  have ef:=Rg.ef zZ;refine Rg.ah rfl (by go_simp;exact ⟨rfl,rfl⟩) ?_;exact aI.ret hB (N2.out _)
 ·intro _ zZ w_ hB hr
  obtain ⟨s30,a30,l30,c30,QX,e30,o30⟩:=aI.get (hr 30 (by decide));have e31:=Rg.l_ (hr 31 (by decide));have e32:=Rg.l_ (hr 32 (by decide));have e33:=Rg.l_ (hr 33 (by decide));have e34:=Rg.l_ (hr 34 (by decide));refine Rg.mC rfl (x:=.slice (some ⟨w_.heap.size,0,none⟩) 5 5) (ob:=.cells (List.toArray [.bool s30,.slice a30 l30 c30,.bool s1,.slice ax lx cx,.bool s2,.slice az lz cz,.bool s2,.slice az lz cz,.bool s2,.slice az lz cz]) 116) (by first | (go_simp;done) | (go_simp;exact ⟨rfl,rfl⟩) | (go_simp;rfl)) (br.at (by have:=hB.size;omega) ?_ rfl);exact bU.cons QX.out o30 (bU.cons hs1.out (aF.below ox.out hB) (bU.cons hs2.out (aF.below oz.out hB) (bU.cons hs2.out (aF.below oz.out hB) (bU.cons hs2.out (aF.below oz.out hB) (bU.nil)))))
 ·intro _ zZ w_ hB hr
  obtain ⟨v35,e35,n35⟩:∃ v,zZ.tmps[35]?=some v/\(Rg.Val.at (br (wc.heap.size) [-8*b,x,z,z,z])).ok v w_:=hr 35 (by decide);obtain ⟨g35,rfl,RD⟩:=Rg.bs n35;have ef:=Rg.ef zZ;refine Rg.ah rfl (by go_simp;exact ⟨rfl,rfl⟩) ?_;exact aI.ret hB (R3.out _ _ _ RD)
 ·refine Rg.o1 ?_;intro zZ w_ hB e
  have ef:=Rg.ef zZ;refine Rg.ah rfl (by go_simp;exact ⟨rfl,rfl⟩) ?_;exact aI.ret hB (N3.out _)
 ·intro _ zZ w_ hB hr
  obtain ⟨s42,a42,l42,c42,Qf,e42,o42⟩:=aI.get (hr 42 (by decide));have e43:=Rg.l_ (hr 43 (by decide));have e44:=Rg.l_ (hr 44 (by decide));have e45:=Rg.l_ (hr 45 (by decide));have e46:=Rg.l_ (hr 46 (by decide));refine Rg.mC rfl (x:=.slice (some ⟨w_.heap.size,0,none⟩) 5 5) (ob:=.cells (List.toArray [.bool s42,.slice a42 l42 c42,.bool s2,.slice az lz cz,.bool s2,.slice az lz cz,.bool s2,.slice az lz cz,.bool s2,.slice az lz cz]) 116) (by first | (go_simp;done) | (go_simp;exact ⟨rfl,rfl⟩) | (go_simp;rfl)) (br.at (by have:=hB.size;omega) ?_ rfl);exact bU.cons Qf.out o42 (bU.cons hs2.out (aF.below oz.out hB) (bU.cons hs2.out (aF.below oz.out hB) (bU.cons hs2.out (aF.below oz.out hB) (bU.cons hs2.out (aF.below oz.out hB) (bU.nil)))))
 ·intro _ zZ w_ hB hr
  obtain ⟨v47,e47,n47⟩:∃ v,zZ.tmps[47]?=some v/\(Rg.Val.at (br (wc.heap.size) [a*a,z,z,z,z])).ok v w_:=hr 47 (by decide);obtain ⟨g47,rfl,RF⟩:=Rg.bs n47;have ef:=Rg.ef zZ;refine Rg.ah rfl (by go_simp;exact ⟨rfl,rfl⟩) ?_;exact aI.ret hB (R4.out _ _ _ RF)
 ·intro _ zZ w_ hB hr
  obtain ⟨s16,a16,GC,c16,Ey,e16,o16⟩:=aI.get (hr 16 (by decide));obtain ⟨s26,a26,l26,c26,JW,e26,RB⟩:=aI.get (hr 26 (by decide));obtain ⟨s36,a36,l36,c36,Qb,e36,o36⟩:=aI.get (hr 36 (by decide));obtain ⟨Ll,a48,Le,Kt,JZ,e48,RH⟩:=aI.get (hr 48 (by decide));refine Rg.mC rfl (x:=.slice (some ⟨w_.heap.size,0,none⟩) 4 4) (ob:=.cells (List.toArray [.bool s16,.slice a16 GC c16,.bool s26,.slice a26 l26 c26,.bool s36,.slice a36 l36 c36,.bool Ll,.slice a48 Le Kt]) 116) (by first | (go_simp;done) | (go_simp;exact ⟨rfl,rfl⟩) | (go_simp;rfl)) (br.at (by have:=hB.size;omega) ?_ rfl);exact bU.cons Ey.out o16 (bU.cons JW.out RB (bU.cons Qb.out o36 (bU.cons JZ.out RH (bU.nil))))
 ·intro _ zZ w_ hB hr
  obtain ⟨v49,e49,n49⟩:∃ v,zZ.tmps[49]?=some v/\(Rg.Val.at (br (wc.heap.size) [Fp,Fq,Fr,KK])).ok v w_:=hr 49 (by decide);obtain ⟨g49,rfl,o49⟩:=Rg.bs n49;have ef:=Rg.ef zZ;refine Rg.ah rfl (by go_simp;exact ⟨rfl,rfl⟩) ?_;exact aI.ret hB (R5.out _ _ _ o49)
 intro vals wz hB hv hne;have n50:(Rg.Val.at (aI (wc.heap.size) (F))).ok (vals 39) wz:=hv 39 (by decide);simp only [Rg.bF,Rg.fill,Act.put,Nat.reduceAdd];clear hv;obtain ⟨RK,a50,Q4,O3,Qh,Lz,o50⟩:=(Rg.bs n50).view;simp only [Lz];clear Lz;have R2:=R.keep hB;have ⟨c0,c1,f0,f1,_⟩:=R2.box;have hr1:=aF.base (aF.bG o50 R2 (by decide) (.bool RK) (.slice a50 Q4 O3)) (Nat.le_trans (Nat.le_add_right _ 3) Fm);have hr2:Below w.heap.size w ((wz.setCell ⟨w.heap.size+1+1,0,none⟩ (.bool RK)).setCell ⟨w.heap.size+1+1,1,none⟩ (.slice a50 Q4 O3)):=DD (DD (d_ hw hB) (by simp <;> omega) _) (by simp <;> omega) _;unfold Rg.aX Rg.aX Oper.wp;go_simp
 go_wp2;exact bodyPost_ret (v:=.agg #[RK,.slice a50 Q4 O3]) (by simp [results,Tryz.results182,go_sem, *]) rfl (⟨_,by rw [Qh.out],hr1,hr2⟩)
theorem eC (a b x z:Int) (vx vz:Value) (w:World) (bx bz:Nat) (hox:ae w bx vx x) (Dl:ae w bz vz z) (hx:Wh.sz x 1000) (hz:Wh.sz z 1000) (ha1:-1000<=a) (ha2:a<=1000) (hb1:-10000<=b) (hb2:b<=10000) :
  Calls Tryz.prog 167 #[.agg #[a,b],.agg #[decide (x<0),vx,decide (z<0),vz]] w fun e w'=>∃ sl,e=.returned (.agg #[decide (Wh.af a b x z<0),sl])/\ae w' w.heap.size sl (Wh.af a b x z)/\Below w.heap.size w w':=by
 obtain ⟨ax,cx,rfl,-,-⟩:=aF.view hox;obtain ⟨az,cz,rfl,-,-⟩:=aF.view Dl;have hq1:Wh.sz a 1000:=Wh.aM (Wh.bP (by omega) (by omega)) (by omega);have hq2:Wh.sz b 1000:=Wh.aM (Wh.bP (by omega) (by omega)) (by omega);have hq3:Wh.sz 4 1000:=Wh.aM (Wh.bP (by omega) (by omega)) (by omega)
 have mm:∀ (l:List Int),(∀ y ∈ l,Wh.sz y 1000)->l.length<=5->∀ k,Wh.small ((l.take k).foldl (·*·) 1):=fun l h hl k=>Wh.cE (Wh.aM (Wh.jG h k) (show 1+l.length*1000<=8000 by omega)) (by omega)
 have mp:∀ (l:List Int),(∀ y ∈ l,Wh.sz y 1000)->l.length<=4->Wh.sz (l.foldl (·*·) 1) 4001:=fun l h hl=>by have:=Wh.jG h l.length;rw [List.take_length] at this;exact Wh.aM this (by omega)
 have m0:∀ (l:List Int),(∀ y ∈ l,Wh.sz y 1000)->∀ y ∈ l,Wh.small y:=fun l h y hy=>Wh.cE (h y hy) (by omega)
 have m1:∀ y ∈ ([x,x,x]:List Int),Wh.sz y 1000:=by intro y h;simp only [List.mem_cons,List.not_mem_nil,or_false] at h;rcases h with h | h | h <;> (subst h;assumption)
 have R1:=fun g cap W (h:bk W g [x,x,x])=>bR [x,x,x] g cap W h (by simp) (m0 _ m1) (mm _ m1 (by simp))
 have p1:=mp _ m1 (by simp)
 have m2:∀ y ∈ ([a,x,z,z]:List Int),Wh.sz y 1000:=by intro y h;simp only [List.mem_cons,List.not_mem_nil,or_false] at h;rcases h with h | h | h | h <;> (subst h;assumption)
 have R2:=fun g cap W (h:bk W g [a,x,z,z])=>bR [a,x,z,z] g cap W h (by simp) (m0 _ m2) (mm _ m2 (by simp))
 have p2:=mp _ m2 (by simp)
 have m3:∀ y ∈ ([b,z,z,z]:List Int),Wh.sz y 1000:=by intro y h;simp only [List.mem_cons,List.not_mem_nil,or_false] at h;rcases h with h | h | h | h <;> (subst h;assumption)
 have R3:=fun g cap W (h:bk W g [b,z,z,z])=>bR [b,z,z,z] g cap W h (by simp) (m0 _ m3) (mm _ m3 (by simp))
 have p3:=mp _ m3 (by simp);have hT:=Wh.tj a b x z;generalize hp1:([x,x,x]:List Int).foldl (·*·) 1=Fp at *;generalize hp2:([a,x,z,z]:List Int).foldl (·*·) 1=Fq at *;generalize hp3:([b,z,z,z]:List Int).foldl (·*·) 1=Fr at *
 have ms:∀ y ∈ [Fp,Fq,Fr],Wh.sz y 4001:=by intro y h;simp only [List.mem_cons,List.not_mem_nil,or_false] at h;rcases h with h | h | h <;> (subst h;assumption)
 have R5:=fun g cap W (h:bk W g [Fp,Fq,Fr])=>jx [Fp,Fq,Fr] g cap W h (by simp) (fun y hy=>Wh.cE (ms y hy) (by omega)) (fun k=>Wh.cE (Wh.aM (Wh.pG ms (by omega) k) (show 4001+3<=7000 by omega)) (by omega))
 have QM:=Wh.pG ms (by omega) 3;rw [show ([Fp,Fq,Fr]:List Int).take 3=[Fp,Fq,Fr] from rfl] at QM;generalize FZ:([Fp,Fq,Fr]:List Int).foldl (·+·) 0=Jl at *;have QN:Wh.sz Jl 4004:=QM
 have R6:=fun g cap W (h:bk W g [4,z,Jl])=>bR [4,z,Jl] g cap W h (by simp) (by
  intro y h;simp only [List.mem_cons,List.not_mem_nil,or_false] at h;rcases h with h | h | h
  ·subst h;exact Wh.cE hq3 (by omega)
  ·subst h;exact Wh.cE hz (by omega)
  ·subst h;exact Wh.cE QN (by omega)) (fun k=>by
  have y0:=Wh.yG;have y1:=Wh.ak y0 hq3;have y2:=Wh.ak y1 hz;have y3:=Wh.ak y2 QN
  match k with
  | 0=>exact Wh.cE y0 (by omega)
  | 1=>exact Wh.cE y1 (by omega)
  | 2=>exact Wh.cE y2 (by omega)
  | k+3=>rw [List.take_of_length_le (by simp)];exact Wh.cE y3 (by omega))
 rw [hT] at R6
 have N1:=fun W=>bX a W (by omega) (by omega)
 have N2:=fun W=>bX b W (by omega) (by omega)
 have N3:=fun W=>bX 4 W (by omega) (by omega)
 clear m1 m2 m3 p1 p2 p3 hp1 hp2 hp3 ms mm mp m0 hT FZ QM QN;replace R1:=DB R1;replace R2:=DB R2;replace R3:=DB R3;replace R5:=DB R5;replace R6:=DB R6;replace N1:=DB N1;replace N2:=DB N2;replace N3:=DB N3;generalize hF:Wh.af a b x z=F at *;clear hF;generalize hs1:decide (x<0)=s1 at *;replace hs1:=DB hs1.symm;generalize hs2:decide (z<0)=s2 at *;replace hs2:=DB hs2.symm;replace hox:=DB (show aF _ _ _ _ from hox);replace Dl:=DB (show aF _ _ _ _ from Dl);generalize (Wh.a_ z.natAbs).length=lz,(Wh.a_ x.natAbs).length=lx at *;obtain ⟨w3,hw3,b1,b2,b3,hB⟩:=cZ w #[a,b] 25 #[s1,.slice ax lx cx,s2,.slice az lz cz] 174 #[false,.slice none 0 0] 116;have En:=DB (aF.below hox.out hB);have Eo:=DB (aF.below Dl.out hB)
 have hz3:w3.heap.size=w.heap.size+3:=by rw [←hw3,DC,fm]
 clear hox Dl;have e0:=b2.aL.c0;have e1:=b2.aL.c1;have e2:=b2.aL.c2;have e3:=b2.aL.c3;go_enter Tryz.func167,Tryz.ntmps167
 go_wp2
 go_upto_region 1 with fail
 go_cut [5,6] (fun p q wx=>∃ gx gz,w.heap.size+3<=gx/\w.heap.size+3<=gz/\p=.pointer (some ⟨gx,0,none⟩)/\q=.pointer (some ⟨gz,0,none⟩)/\aG wx gx 116 #[s1,.slice ax lx cx]/\aG wx gz 116 #[s2,.slice az lz cz]/\Below (w.heap.size+3) w3 wx)
 case first=>
  go_region
  all_goals
   go_wp2_with fail
   go_meet
   first
   | exact (qk _ _ hz3 _ _ _ _ _).1
   | exact (qk _ _ hz3 _ _ _ _ _).2
 case rest=>
 obtain ⟨gx,gz,hgx,hgz,rfl,rfl,X,Z,hbx⟩:=hcut;rw [←hz3] at hbx;have ox:=DB (aF.below En.out hbx);have oz:=DB (aF.below Eo.out hbx);have C:=b1.keep hbx;have R:=b3.keep hbx;have hw:=d_ hB hbx
 have Fm:w.heap.size+3<=wc.heap.size:=by have:=hbx.size;omega
 clear hz3;clear b1 b2 b3 e0 e1 e2 e3 hB hbx En Eo
 go_upto_region 2 with fail
 refine Rg.bg 24 [.is (.agg #[s1,.slice ax lx cx]),.is (.agg #[s1,.slice ax lx cx]),.is (.agg #[s1,.slice ax lx cx]),.at (br (wc.heap.size) [x,x,x]),.at (aI (wc.heap.size) (Fp)),.is (.pointer (some ⟨w.heap.size,0,none⟩)),.is a,.at (aI (wc.heap.size) (a)),.is (.agg #[s1,.slice ax lx cx]),.is (.agg #[s2,.slice az lz cz]),.is (.agg #[s2,.slice az lz cz]),.at (br (wc.heap.size) [a,x,z,z]),.at (aI (wc.heap.size) (Fq)),.is (.pointer (some ⟨w.heap.size,1,none⟩)),.is b,.at (aI (wc.heap.size) (b)),.is (.agg #[s2,.slice az lz cz]),.is (.agg #[s2,.slice az lz cz]),.is (.agg #[s2,.slice az lz cz]),.at (br (wc.heap.size) [b,z,z,z]),.at (aI (wc.heap.size) (Fr)),.at (br (wc.heap.size) [Fp,Fq,Fr]),.at (aI (wc.heap.size) (Jl)),.new (wc.heap.size) 116 #[false,.slice none 0 0]] (by kernel_rfl) (by kernel_rfl) (by kernel_rfl) ⟨?_,?_,?_,?_,?_,?_,?_,?_,?_,?_,?_,?_,?_,?_,?_,?_,?_,?_,?_,?_,?_,?_,?_,?_,fun h_=>absurd h_ (by decide),trivial⟩ ?_
 all_goals try ((refine Rg.b1 ?_;intro zZ w_ hB e);have kz:=aE hB X.box.c0;have kz:=aE hB X.box.c1;have kz:=aE hB C.box.c0;have kz:=aE hB Z.box.c0;have kz:=aE hB Z.box.c1;have kz:=aE hB C.box.c1;(go_simp;done))
 ·intro _ zZ w_ hB hr
  have e12:=Rg.l_ (hr 12 (by decide));have e13:=Rg.l_ (hr 13 (by decide));have e14:=Rg.l_ (hr 14 (by decide));refine Rg.mC rfl (x:=.slice (some ⟨w_.heap.size,0,none⟩) 3 3) (ob:=.cells (List.toArray [.bool s1,.slice ax lx cx,.bool s1,.slice ax lx cx,.bool s1,.slice ax lx cx]) 116) (by first | (go_simp;done) | (go_simp;exact ⟨rfl,rfl⟩) | (go_simp;rfl)) (br.at (by have:=hB.size;omega) ?_ rfl);exact bU.cons hs1.out (aF.below ox.out hB) (bU.cons hs1.out (aF.below ox.out hB) (bU.cons hs1.out (aF.below ox.out hB) (bU.nil)))
 ·intro _ zZ w_ hB hr
  obtain ⟨v15,e15,n15⟩:∃ v,zZ.tmps[15]?=some v/\(Rg.Val.at (br (wc.heap.size) [x,x,x])).ok v w_:=hr 15 (by decide);obtain ⟨g15,rfl,Ie⟩:=Rg.bs n15;have ef:=Rg.ef zZ;refine Rg.ah rfl (by go_simp;exact ⟨rfl,rfl⟩) ?_;exact aI.ret hB (R1.out _ _ _ Ie)
 ·refine Rg.o1 ?_;intro zZ w_ hB e
  have ef:=Rg.ef zZ;refine Rg.ah rfl (by go_simp;exact ⟨rfl,rfl⟩) ?_;exact aI.ret hB (N1.out _)
 ·intro _ zZ w_ hB hr
  obtain ⟨Gc,G0,GO,c19,Ez,e19,KI⟩:=aI.get (hr 19 (by decide));have e20:=Rg.l_ (hr 20 (by decide));have e21:=Rg.l_ (hr 21 (by decide));have e22:=Rg.l_ (hr 22 (by decide));refine Rg.mC rfl (x:=.slice (some ⟨w_.heap.size,0,none⟩) 4 4) (ob:=.cells (List.toArray [.bool Gc,.slice G0 GO c19,.bool s1,.slice ax lx cx,.bool s2,.slice az lz cz,.bool s2,.slice az lz cz]) 116) (by first | (go_simp;done) | (go_simp;exact ⟨rfl,rfl⟩) | (go_simp;rfl)) (br.at (by have:=hB.size;omega) ?_ rfl);exact bU.cons Ez.out KI (bU.cons hs1.out (aF.below ox.out hB) (bU.cons hs2.out (aF.below oz.out hB) (bU.cons hs2.out (aF.below oz.out hB) (bU.nil))))
 ·intro _ zZ w_ hB hr
  obtain ⟨v23,e23,n23⟩:∃ v,zZ.tmps[23]?=some v/\(Rg.Val.at (br (wc.heap.size) [a,x,z,z])).ok v w_:=hr 23 (by decide);obtain ⟨g23,rfl,Ji⟩:=Rg.bs n23;have ef:=Rg.ef zZ;refine Rg.ah rfl (by go_simp;exact ⟨rfl,rfl⟩) ?_;exact aI.ret hB (R2.out _ _ _ Ji)
 ·refine Rg.o1 ?_;intro zZ w_ hB e
  have ef:=Rg.ef zZ;refine Rg.ah rfl (by go_simp;exact ⟨rfl,rfl⟩) ?_;exact aI.ret hB (N2.out _)
 ·intro _ zZ w_ hB hr
  obtain ⟨Js,a27,Jg,I3,JX,e27,Ma⟩:=aI.get (hr 27 (by decide));have e28:=Rg.l_ (hr 28 (by decide));have e29:=Rg.l_ (hr 29 (by decide));have e30:=Rg.l_ (hr 30 (by decide));refine Rg.mC rfl (x:=.slice (some ⟨w_.heap.size,0,none⟩) 4 4) (ob:=.cells (List.toArray [.bool Js,.slice a27 Jg I3,.bool s2,.slice az lz cz,.bool s2,.slice az lz cz,.bool s2,.slice az lz cz]) 116) (by first | (go_simp;done) | (go_simp;exact ⟨rfl,rfl⟩) | (go_simp;rfl)) (br.at (by have:=hB.size;omega) ?_ rfl);exact bU.cons JX.out Ma (bU.cons hs2.out (aF.below oz.out hB) (bU.cons hs2.out (aF.below oz.out hB) (bU.cons hs2.out (aF.below oz.out hB) (bU.nil))))
 ·intro _ zZ w_ hB hr
  obtain ⟨v31,e31,n31⟩:∃ v,zZ.tmps[31]?=some v/\(Rg.Val.at (br (wc.heap.size) [b,z,z,z])).ok v w_:=hr 31 (by decide);obtain ⟨g31,rfl,RC⟩:=Rg.bs n31;have ef:=Rg.ef zZ;refine Rg.ah rfl (by go_simp;exact ⟨rfl,rfl⟩) ?_;exact aI.ret hB (R3.out _ _ _ RC)
 ·intro _ zZ w_ hB hr
  obtain ⟨s16,a16,GC,c16,Ey,e16,o16⟩:=aI.get (hr 16 (by decide));obtain ⟨s24,a24,Hi,c24,GY,e24,KJ⟩:=aI.get (hr 24 (by decide));obtain ⟨s32,a32,l32,c32,JY,e32,o32⟩:=aI.get (hr 32 (by decide));refine Rg.mC rfl (x:=.slice (some ⟨w_.heap.size,0,none⟩) 3 3) (ob:=.cells (List.toArray [.bool s16,.slice a16 GC c16,.bool s24,.slice a24 Hi c24,.bool s32,.slice a32 l32 c32]) 116) (by first | (go_simp;done) | (go_simp;exact ⟨rfl,rfl⟩) | (go_simp;rfl)) (br.at (by have:=hB.size;omega) ?_ rfl);exact bU.cons Ey.out o16 (bU.cons GY.out KJ (bU.cons JY.out o32 (bU.nil)))
 ·intro _ zZ w_ hB hr
  obtain ⟨v33,e33,n33⟩:∃ v,zZ.tmps[33]?=some v/\(Rg.Val.at (br (wc.heap.size) [Fp,Fq,Fr])).ok v w_:=hr 33 (by decide);obtain ⟨g33,rfl,Jj⟩:=Rg.bs n33;have ef:=Rg.ef zZ;refine Rg.ah rfl (by go_simp;exact ⟨rfl,rfl⟩) ?_;exact aI.ret hB (R5.out _ _ _ Jj)
 ·intro _ zZ w_ hB hr
  exact ⟨by have:=hB.size;omega,rfl,by first | (go_simp;done) | (go_simp;rfl)⟩
 intro vals wz hB hv hne;have n7:(Rg.Val.new (wc.heap.size) 116 #[false,.slice none 0 0]).ok (vals 23) wz:=hv 23 (by decide);have n34:(Rg.Val.at (aI (wc.heap.size) (Jl))).ok (vals 22) wz:=hv 22 (by decide);simp only [Rg.bF,Rg.fill,Act.put,Nat.reduceAdd];clear hv;obtain ⟨g7,IW,HW,o7⟩:=n7;replace o7:aG wz g7 116 #[false,.slice none 0 0]:=o7;obtain ⟨KL,a34,KH,c34,QZ,Fg,o34⟩:=(Rg.bs n34).view;simp only [HW,Fg];clear HW Fg;have hB2:Below wc.heap.size wc ((wz.setCell ⟨g7,0,none⟩ (.bool KL)).setCell ⟨g7,1,none⟩ (.slice a34 KH c34)):=DD (DD hB IW _) IW _;have D:=aG.set2 o7 (.bool KL) (.slice a34 KH c34);have oD:=DB (aF.bG o34 o7 (by decide) (.bool KL) (.slice a34 KH c34));have ⟨c0,c1,f0,f1,_⟩:=o7.box;unfold Rg.aX Rg.aX Oper.wp;go_simp
 clear c0 c1 f0 f1 o7 o34;generalize ((wz.setCell ⟨g7,0,none⟩ (.bool KL)).setCell ⟨g7,1,none⟩ (.slice a34 KH c34))=wd at *;replace Z:=Z.keep hB2;replace R:=R.keep hB2;replace oz:=DB (aF.below oz.out hB2);replace hw:=d_ hw hB2;have GZ:wc.heap.size<=wd.heap.size:=hB2.size
 go_upto_region 3 with fail
 clear hB2;refine Rg.bg 5 [.at (aI (wd.heap.size) (4)),.is (.agg #[s2,.slice az lz cz]),.is (.agg #[KL,.slice a34 KH c34]),.at (br (wd.heap.size) [4,z,Jl]),.at (aI (wd.heap.size) (F))] (by kernel_rfl) (by kernel_rfl) (by kernel_rfl) ⟨?_,?_,?_,?_,?_,fun h_=>absurd h_ (by decide),trivial⟩ ?_
 all_goals try ((refine Rg.b1 ?_;intro zZ w_ hB e);have kz:=aE hB Z.box.c0;have kz:=aE hB Z.box.c1;have kz:=aE hB D.box.c0;have kz:=aE hB D.box.c1;(go_simp;done))
 ·refine Rg.o0 ?_;intro zZ w_ hB
  have ec:=Rg.ec zZ;have ef:=Rg.ef zZ;refine Rg.ah rfl (by go_simp;exact ⟨rfl,rfl⟩) ?_;exact aI.ret hB (N3.out _)
 ·intro _ zZ w_ hB hr
  obtain ⟨s35,a35,l35,c35,Qa,e35,RD⟩:=aI.get (hr 35 (by decide));have e36:=Rg.l_ (hr 36 (by decide));have e37:=Rg.l_ (hr 37 (by decide));refine Rg.mC rfl (x:=.slice (some ⟨w_.heap.size,0,none⟩) 3 3) (ob:=.cells (List.toArray [.bool s35,.slice a35 l35 c35,.bool s2,.slice az lz cz,.bool KL,.slice a34 KH c34]) 116) (by first | (go_simp;done) | (go_simp;exact ⟨rfl,rfl⟩) | (go_simp;rfl)) (br.at (by have:=hB.size;omega) ?_ rfl);exact bU.cons Qa.out RD (bU.cons hs2.out (aF.below oz.out hB) (bU.cons QZ.out (aF.below oD.out hB) (bU.nil)))
 ·intro _ zZ w_ hB hr
  obtain ⟨v38,e38,n38⟩:∃ v,zZ.tmps[38]?=some v/\(Rg.Val.at (br (wd.heap.size) [4,z,Jl])).ok v w_:=hr 38 (by decide);obtain ⟨g38,rfl,RE⟩:=Rg.bs n38;have ef:=Rg.ef zZ;refine Rg.ah rfl (by go_simp;exact ⟨rfl,rfl⟩) ?_;exact aI.ret hB (R6.out _ _ _ RE)
 intro vals wy hB4 hv hne;have n39:(Rg.Val.at (aI (wd.heap.size) (F))).ok (vals 4) wy:=hv 4 (by decide);simp only [Rg.bF,Rg.fill,Act.put,Nat.reduceAdd];clear hv;obtain ⟨RJ,a39,Q3,O2,Qe,Gm,o39⟩:=(Rg.bs n39).view;simp only [Gm];clear Gm;have R2:=R.keep hB4;have ⟨c0,c1,f0,f1,_⟩:=R2.box;have hr1:=aF.base (aF.bG o39 R2 (by decide) (.bool RJ) (.slice a39 Q3 O2)) (show w.heap.size<=wd.heap.size from hw.size);have hr2:Below w.heap.size w ((wy.setCell ⟨w.heap.size+1+1,0,none⟩ (.bool RJ)).setCell ⟨w.heap.size+1+1,1,none⟩ (.slice a39 Q3 O2)):=DD (DD (d_ hw hB4) (by simp <;> omega) _) (by simp <;> omega) _;unfold Rg.aX Rg.aX Oper.wp;go_simp
 go_wp2;exact bodyPost_ret (v:=.agg #[RJ,.slice a39 Q3 O2]) (by simp [results,Tryz.results167,go_sem, *]) rfl (⟨_,by rw [Qe.out],hr1,hr2⟩)
theorem lw (a b x z:Int) (vx vz:Value) (w:World) (bx bz:Nat) (hox:ae w bx vx x) (Dl:ae w bz vz z) (hx:Wh.sz x 1000) (hz:Wh.sz z 1000) (ha1:-1000<=a) (ha2:a<=1000) (hb1:-10000<=b) (hb2:b<=10000) :
  Calls Tryz.prog 173 #[.agg #[a,b],.agg #[decide (x<0),vx,decide (z<0),vz]] w fun e w'=>∃ sl,e=.returned (.agg #[decide (Wh.af a b x z<0),sl])/\ae w' w.heap.size sl (Wh.af a b x z)/\Below w.heap.size w w':=by
 obtain ⟨ax,cx,rfl,-,-⟩:=aF.view hox;obtain ⟨az,cz,rfl,-,-⟩:=aF.view Dl;have m1:=Wh.ak hx hx;have m0:=Wh.ak hz hz;have m2:=Wh.ak m1 hx;have m3:=Wh.ak hx m0;have m4:=Wh.ak m3 (Wh.bP (n:=a) (by omega) (by omega));have m5:=Wh.gp (Wh.aM m2 (show 1000+1000+1000<=4000 by omega)) (Wh.aM m4 (show _<=4000 by omega));have m6:=Wh.ak hz m0;have m7:=Wh.ak m6 (Wh.bP (n:=b) (by omega) (by omega));have m8:=Wh.gp (Wh.aM m5 (show 4000+1<=4100 by omega)) (Wh.aM m7 (show _<=4100 by omega));have m9:=Wh.ak hz m8
 have P0:=fun v W k (h:aF W k v (Wh.a_ (z).natAbs))=>dp (z) v W k h (Wh.aU.2 (Wh.aM hz (by omega)))
 have P1:=fun v W k (h:aF W k v (Wh.a_ (x).natAbs))=>dp (x) v W k h (Wh.aU.2 (Wh.aM hx (by omega)))
 have P2:=fun v v' W k k' (h:aF W k v (Wh.a_ (x*x).natAbs)) (h':aF W k' v' (Wh.a_ (x).natAbs))=>eJ (x*x) (x) v v' W k k' h h' (Wh.aU.2 (Wh.aM m1 (by omega))) (Wh.aU.2 (Wh.aM hx (by omega)))
 have P3:=fun v v' W k k' (h:aF W k v (Wh.a_ (x).natAbs)) (h':aF W k' v' (Wh.a_ (z*z).natAbs))=>eJ (x) (z*z) v v' W k k' h h' (Wh.aU.2 (Wh.aM hx (by omega))) (Wh.aU.2 (Wh.aM m0 (by omega)))
 have P4:=fun v W k (h:aF W k v (Wh.a_ (x*(z*z)).natAbs))=>eS (x*(z*z)) (a) v W k h (Wh.aU.2 (Wh.aM m3 (by omega))) (by omega) (by omega)
 have P5:=fun v v' W k k' (h:aF W k v (Wh.a_ (x*x*x).natAbs)) (h':aF W k' v' (Wh.a_ (x*(z*z)*a).natAbs))=>kF (x*x*x) (x*(z*z)*a) v v' W k k' h h' (Wh.aU.2 (Wh.aM m2 (by omega))) (Wh.aU.2 (Wh.aM m4 (by omega)))
 have P6:=fun v v' W k k' (h:aF W k v (Wh.a_ (z).natAbs)) (h':aF W k' v' (Wh.a_ (z*z).natAbs))=>eJ (z) (z*z) v v' W k k' h h' (Wh.aU.2 (Wh.aM hz (by omega))) (Wh.aU.2 (Wh.aM m0 (by omega)))
 have P7:=fun v W k (h:aF W k v (Wh.a_ (z*(z*z)).natAbs))=>eS (z*(z*z)) (b) v W k h (Wh.aU.2 (Wh.aM m6 (by omega))) (by omega) (by omega)
 have P8:=fun v v' W k k' (h:aF W k v (Wh.a_ (x*x*x+x*(z*z)*a).natAbs)) (h':aF W k' v' (Wh.a_ (z*(z*z)*b).natAbs))=>kF (x*x*x+x*(z*z)*a) (z*(z*z)*b) v v' W k k' h h' (Wh.aU.2 (Wh.aM m5 (by omega))) (Wh.aU.2 (Wh.aM m7 (by omega)))
 have P9:=fun v v' W k k' (h:aF W k v (Wh.a_ (z).natAbs)) (h':aF W k' v' (Wh.a_ (x*x*x+x*(z*z)*a+z*(z*z)*b).natAbs))=>eJ (z) (x*x*x+x*(z*z)*a+z*(z*z)*b) v v' W k k' h h' (Wh.aU.2 (Wh.aM hz (by omega))) (Wh.aU.2 (Wh.aM m8 (by omega)))
 have PA:=fun v W k (h:aF W k v (Wh.a_ (z*(x*x*x+x*(z*z)*a+z*(z*z)*b)).natAbs))=>eS (z*(x*x*x+x*(z*z)*a+z*(z*z)*b)) (4) v W k h (Wh.aU.2 (Wh.aM m9 (by omega))) (by omega) (by omega)
 have hT:=Wh.pU a b x z;rw [hT] at PA;clear hT m1 m0 m2 m3 m4 m5 m6 m7 m8 m9;generalize Wh.af a b x z=F at *;generalize JA:x*x*x+x*(z*z)*a+z*(z*z)*b=S2 at *;generalize I_:x*x*x+x*(z*z)*a=S1 at *;generalize Pg:z*(z*z)*b=zb at *;generalize Ph:z*(z*z)=zc at *;generalize O_:x*(z*z)*a=xa at *;generalize Pb:x*(z*z)=xz at *;generalize PJ:x*x*x=xc at *;generalize JB:x*x=xq at *;generalize JC:z*z=zq at *;generalize hGg:z*S2=zs2 at *;clear JA I_ Pg Ph O_ Pb PJ JB JC hGg;replace P0:=DB P0;replace P1:=DB P1;replace P2:=DB P2;replace P3:=DB P3;replace P4:=DB P4;replace P5:=DB P5;replace P6:=DB P6;replace P7:=DB P7;replace P8:=DB P8;replace P9:=DB P9;replace PA:=DB PA;generalize hs1:decide (x<0)=s1 at *;replace hs1:=DB hs1.symm;generalize hs2:decide (z<0)=s2 at *;replace hs2:=DB hs2.symm;replace hox:=DB (show aF _ _ _ _ from hox);replace Dl:=DB (show aF _ _ _ _ from Dl);generalize (Wh.a_ z.natAbs).length=lz,(Wh.a_ x.natAbs).length=lx at *;obtain ⟨w3,hw3,b1,b2,b3,hB⟩:=cZ w #[a,b] 25 #[s1,.slice ax lx cx,s2,.slice az lz cz] 174 #[false,.slice none 0 0] 116;have En:=DB (aF.below hox.out hB);have Eo:=DB (aF.below Dl.out hB)
 have hz3:w3.heap.size=w.heap.size+3:=by rw [←hw3,DC,fm]
 clear hox Dl;have e0:=b2.aL.c0;have e1:=b2.aL.c1;have e2:=b2.aL.c2;have e3:=b2.aL.c3;go_enter Tryz.func173,Tryz.ntmps173
 go_wp2
 go_upto_region 1 with fail
 go_cut [5,6] (fun p q wx=>∃ gx gz,w.heap.size+3<=gx/\w.heap.size+3<=gz/\p=.pointer (some ⟨gx,0,none⟩)/\q=.pointer (some ⟨gz,0,none⟩)/\aG wx gx 116 #[s1,.slice ax lx cx]/\aG wx gz 116 #[s2,.slice az lz cz]/\Below (w.heap.size+3) w3 wx)
 case first=>
  go_region
  all_goals
   go_wp2_with fail
   go_meet
   first
   | exact (qk _ _ hz3 _ _ _ _ _).1
   | exact (qk _ _ hz3 _ _ _ _ _).2
 case rest=>
 obtain ⟨gx,gz,hgx,hgz,rfl,rfl,X,Z,hbx⟩:=hcut;rw [←hz3] at hbx;have ox:=DB (aF.below En.out hbx);have oz:=DB (aF.below Eo.out hbx);have C:=b1.keep hbx;have R:=b3.keep hbx;have hw:=d_ hB hbx
 have Fm:w.heap.size+3<=wc.heap.size:=by have:=hbx.size;omega
 clear hz3;clear b1 b2 b3 e0 e1 e2 e3 hB hbx En Eo;have z0:=Z.box.c0;have z1:=Z.box.c1
 go_wp2_with (go_at_call 187;(with_reducible refine (P0.out _ _ _ oz.out).mono ?_);rintro e w4 ⟨v3,rfl,ho3,hb4⟩;obtain ⟨a3,k3,rfl,MO,hv3⟩:=aF.view ho3;clear MO hv3 z0 z1)
 have D7:wc.heap.size<=w4.heap.size:=hb4.size;generalize (Wh.a_ zq.natAbs).length=l3 at *;generalize hs3:decide (zq<0)=s3 at *;replace hs3:=DB hs3.symm;have o3:=DB (aF.alloc (show aF _ _ _ _ from ho3) (.cells #[s3,.slice a3 l3 k3] 116));clear ho3;have T:=aG.new w4 #[s3,.slice a3 l3 k3] 116;have hB2:Below wc.heap.size wc (w4.alloc (.cells #[s3,.slice a3 l3 k3] 116)):=hb4.alloc D7 (.cells #[s3,.slice a3 l3 k3] 116);have IW:wc.heap.size<=w4.heap.size:=D7;have K8:gz<wc.heap.size:=Z.lt
 go_upto_region 3 with fail
 generalize w4.alloc (.cells #[s3,.slice a3 l3 k3] 116)=wd at *;replace X:=X.keep hB2;replace Z:=Z.keep hB2;replace C:=C.keep hB2;replace R:=R.keep hB2;replace ox:=DB (aF.below ox.out hB2);replace oz:=DB (aF.below oz.out hB2);replace hw:=d_ hw hB2;have GZ:wc.heap.size<=wd.heap.size:=hB2.size
 replace K8:gz<wd.heap.size:=by omega
 replace Fm:w.heap.size+3<=wd.heap.size:=by omega
 clear hB2 hb4;refine Rg.bg 12 [.is (.agg #[s1,.slice ax lx cx]),.at (aI (wd.heap.size) (xq)),.is (.agg #[s1,.slice ax lx cx]),.at (aI (wd.heap.size) (xc)),.is (.agg #[s1,.slice ax lx cx]),.is (.agg #[s3,.slice a3 l3 k3]),.at (aI (wd.heap.size) (xz)),.is (.pointer (some ⟨w.heap.size,0,none⟩)),.is a,.at (aI (wd.heap.size) (xa)),.at (aI (wd.heap.size) (S1)),.new (wd.heap.size) 116 #[false,.slice none 0 0]] (by kernel_rfl) (by kernel_rfl) (by kernel_rfl) ⟨?_,?_,?_,?_,?_,?_,?_,?_,?_,?_,?_,?_,fun h_=>absurd h_ (by decide),trivial⟩ ?_
 all_goals try ((refine Rg.b1 ?_;intro zZ w_ hB e);have kz:=aE hB X.box.c0;have kz:=aE hB X.box.c1;have kz:=aE hB T.box.c0;have kz:=aE hB T.box.c1;have kz:=aE hB C.box.c0;(go_simp;done))
 ·refine Rg.o1 ?_;intro zZ w_ hB e
  have ef:=Rg.ef zZ;refine Rg.ah rfl (by go_simp;exact ⟨rfl,rfl⟩) ?_;exact aI.ret hB (P1.out _ _ _ (aF.below ox.out hB))
 ·intro _ zZ w_ hB hr
  obtain ⟨s16,a16,GC,c16,Ey,e16,o16⟩:=aI.get (hr 16 (by decide));have e17:=Rg.l_ (hr 17 (by decide));have ef:=Rg.ef zZ;refine Rg.ah rfl (by go_simp;exact ⟨rfl,rfl⟩) ?_;obtain rfl:=Ey.out;exact aI.ret hB (P2.out _ _ _ _ _ o16 (aF.below ox.out hB))
 ·intro _ zZ w_ hB hr
  have e19:=Rg.l_ (hr 19 (by decide));have e20:=Rg.l_ (hr 20 (by decide));have ef:=Rg.ef zZ;refine Rg.ah rfl (by go_simp;exact ⟨rfl,rfl⟩) ?_;exact aI.ret hB (P3.out _ _ _ _ _ (aF.below ox.out hB) (aF.below o3.out hB))
 ·intro _ zZ w_ hB hr
  obtain ⟨s21,a21,l21,c21,QT,e21,o21⟩:=aI.get (hr 21 (by decide));have e23:=Rg.l_ (hr 23 (by decide));have ef:=Rg.ef zZ;refine Rg.ah rfl (by go_simp;exact ⟨rfl,rfl⟩) ?_;obtain rfl:=QT.out;exact aI.ret hB (P4.out _ _ _ o21)
 ·intro _ zZ w_ hB hr
  obtain ⟨s18,a18,l18,c18,JV,e18,RA⟩:=aI.get (hr 18 (by decide));obtain ⟨s24,a24,Hi,c24,GY,e24,KJ⟩:=aI.get (hr 24 (by decide));have ef:=Rg.ef zZ;refine Rg.ah rfl (by go_simp;exact ⟨rfl,rfl⟩) ?_;obtain rfl:=JV.out;obtain rfl:=GY.out;exact aI.ret hB (P5.out _ _ _ _ _ RA KJ)
 ·intro _ zZ w_ hB hr
  exact ⟨by have:=hB.size;omega,rfl,by first | (go_simp;done) | (go_simp;rfl)⟩
 intro vals wz hB hv hne;have n8:(Rg.Val.new (wd.heap.size) 116 #[false,.slice none 0 0]).ok (vals 11) wz:=hv 11 (by decide);have n25:(Rg.Val.at (aI (wd.heap.size) (S1))).ok (vals 10) wz:=hv 10 (by decide);simp only [Rg.bF,Rg.fill,Act.put,Nat.reduceAdd];clear hv;obtain ⟨g8,JL,Ff,o8⟩:=n8;replace o8:aG wz g8 116 #[false,.slice none 0 0]:=o8;obtain ⟨Lk,a25,Ld,Ks,QV,Dj,MZ⟩:=(Rg.bs n25).view;simp only [Ff,Dj];clear Ff Dj;have hB2:Below wd.heap.size wd ((wz.setCell ⟨g8,0,none⟩ (.bool Lk)).setCell ⟨g8,1,none⟩ (.slice a25 Ld Ks)):=DD (DD hB JL _) JL _;have U:=aG.set2 o8 (.bool Lk) (.slice a25 Ld Ks);have oU:=DB (aF.bG MZ o8 (by decide) (.bool Lk) (.slice a25 Ld Ks));have ⟨c0,c1,f0,f1,_⟩:=o8.box;unfold Rg.aX Rg.aX Oper.wp;go_simp
 clear c0 c1 f0 f1 o8 MZ;generalize ((wz.setCell ⟨g8,0,none⟩ (.bool Lk)).setCell ⟨g8,1,none⟩ (.slice a25 Ld Ks))=we at *;replace Z:=Z.keep hB2;replace C:=C.keep hB2;replace R:=R.keep hB2;replace T:=T.keep hB2;replace oz:=DB (aF.below oz.out hB2);replace o3:=DB (aF.below o3.out hB2);replace hw:=d_ hw hB2;have GZ:wd.heap.size<=we.heap.size:=hB2.size
 go_upto_region 4 with fail
 clear hB2 hB;refine Rg.bg 8 [.is (.agg #[Lk,.slice a25 Ld Ks]),.is (.agg #[s2,.slice az lz cz]),.is (.agg #[s3,.slice a3 l3 k3]),.at (aI (we.heap.size) (zc)),.is (.pointer (some ⟨w.heap.size,1,none⟩)),.is b,.at (aI (we.heap.size) (zb)),.at (aI (we.heap.size) (S2))] (by kernel_rfl) (by kernel_rfl) (by kernel_rfl) ⟨?_,?_,?_,?_,?_,?_,?_,?_,fun h_=>absurd h_ (by decide),trivial⟩ ?_
 all_goals try ((refine Rg.b1 ?_;intro zZ w_ hB e);have kz:=aE hB U.box.c0;have kz:=aE hB U.box.c1;have kz:=aE hB Z.box.c0;have kz:=aE hB Z.box.c1;have kz:=aE hB T.box.c0;have kz:=aE hB T.box.c1;have kz:=aE hB C.box.c1;(go_simp;done))
 ·intro _ zZ w_ hB hr
  have e27:=Rg.l_ (hr 27 (by decide));have e28:=Rg.l_ (hr 28 (by decide));have ef:=Rg.ef zZ;refine Rg.ah rfl (by go_simp;exact ⟨rfl,rfl⟩) ?_;exact aI.ret hB (P6.out _ _ _ _ _ (aF.below oz.out hB) (aF.below o3.out hB))
 ·intro _ zZ w_ hB hr
  obtain ⟨s29,a29,l29,c29,QW,e29,o29⟩:=aI.get (hr 29 (by decide));have e31:=Rg.l_ (hr 31 (by decide));have ef:=Rg.ef zZ;refine Rg.ah rfl (by go_simp;exact ⟨rfl,rfl⟩) ?_;obtain rfl:=QW.out;exact aI.ret hB (P7.out _ _ _ o29)
 ·intro _ zZ w_ hB hr
  have e26:=Rg.l_ (hr 26 (by decide));obtain ⟨s32,a32,l32,c32,JY,e32,o32⟩:=aI.get (hr 32 (by decide));have ef:=Rg.ef zZ;refine Rg.ah rfl (by go_simp;exact ⟨rfl,rfl⟩) ?_;obtain rfl:=JY.out;rw [QV.out];exact aI.ret hB (P8.out _ _ _ _ _ (aF.below oU.out hB) o32)
 intro vals wy hB hv hne;have n33:(Rg.Val.at (aI (we.heap.size) (S2))).ok (vals 7) wy:=hv 7 (by decide);simp only [Rg.bF,Rg.fill,Act.put,Nat.reduceAdd];clear hv;obtain ⟨ID,a33,IB,Ht,HG,E0,Jj⟩:=(Rg.bs n33).view;simp only [E0];clear E0;have U2:=U.keep hB;have hB2:Below wd.heap.size we ((wy.setCell ⟨g8,0,none⟩ (.bool ID)).setCell ⟨g8,1,none⟩ (.slice a33 IB Ht)):=DD (DD (hB.mono GZ) JL _) JL _;have oS:=DB (aF.bG Jj U2 (by decide) (.bool ID) (.slice a33 IB Ht));have U3:=aG.set2 U2 (.bool ID) (.slice a33 IB Ht)
 have hgz9:gz<wd.heap.size/\w.heap.size+1+1<wd.heap.size:=⟨K8,by have:=Fm;omega⟩
 have Z5:aG ((wy.setCell ⟨g8,0,none⟩ (.bool ID)).setCell ⟨g8,1,none⟩ (.slice a33 IB Ht)) gz 116 #[s2,.slice az lz cz]:=((Z.keep hB).other (by omega) _).other (by omega) _;have R5:aG ((wy.setCell ⟨g8,0,none⟩ (.bool ID)).setCell ⟨g8,1,none⟩ (.slice a33 IB Ht)) (w.heap.size+1+1) 116 #[false,.slice none 0 0]:=((R.keep hB).other (by omega) _).other (by omega) _;have oz5:=DB (aF.bG (aF.below oz.out hB) U2 (by decide) (.bool ID) (.slice a33 IB Ht));have KF:=hw.trans (hB2.mono (show w.heap.size<=wd.heap.size by omega));have ⟨c0,c1,f0,f1,_⟩:=U2.box;unfold Rg.aX Rg.aX Oper.wp;go_simp
 clear c0 c1 f0 f1 U2;generalize ((wy.setCell ⟨g8,0,none⟩ (.bool ID)).setCell ⟨g8,1,none⟩ (.slice a33 IB Ht))=wf at *;have y0:=Z5.box.c0;have y1:=Z5.box.c1;have y2:=U3.box.c0;have y3:=U3.box.c1;obtain rfl:=HG.out
 go_wp2_with (first | (go_at_call 189;(with_reducible refine (P9.out _ _ _ _ _ oz5.out oS.out).mono ?_);rintro e w6 ⟨v6,rfl,IY,hb6⟩;obtain ⟨a6,k6,rfl,QG,hv6⟩:=aF.view IY;clear QG hv6;have Em:=(show aF _ _ _ _ from IY)) | (go_at_call 190;(with_reducible refine (PA.out _ _ _ Em).mono ?_);rintro e w7 ⟨v7,rfl,Fk,DL⟩;obtain ⟨a7,k7,rfl,hm7,hv7⟩:=aF.view Fk;clear hm7 hv7;have R7:=(R5.keep hb6).keep DL;(have ⟨c0,c1,f0,f1,_⟩:=R7.box)))
 generalize decide (F<0)=s7,(Wh.a_ F.natAbs).length=l7 at *;have Pk:=KF.trans ((hb6.mono KF.size).trans (DL.mono (Nat.le_trans KF.size hb6.size)));have hr1:=aF.base (aF.bG Fk R7 (by decide) (.bool s7) (.slice a7 l7 k7)) (show w.heap.size<=w6.heap.size from Nat.le_trans KF.size hb6.size);have hr2:Below w.heap.size w ((w7.setCell ⟨w.heap.size+1+1,0,none⟩ (.bool s7)).setCell ⟨w.heap.size+1+1,1,none⟩ (.slice a7 l7 k7)):=Gh Pk;exact bodyPost_ret (v:=.agg #[s7,.slice a7 l7 k7]) (by simp [results,Tryz.results173,go_sem, *]) rfl (⟨_,rfl,hr1,hr2⟩)
end
end Go.Proofs.YtkalaljcbmkbmaaGreat
