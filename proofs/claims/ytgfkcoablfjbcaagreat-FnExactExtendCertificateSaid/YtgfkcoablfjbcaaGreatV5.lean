/-
  Joined texts: contracts and plain lemmas.
-/
import Derived.Test.YtgfkcoablfjbcaaGreatV1
import Derived.Test.YtgfkcoablfjbcaaGreatV4
set_option linter.unusedSimpArgs false
set_option linter.unusedVariables false
set_option maxRecDepth 100000
set_option maxHeartbeats 8000000
namespace Go.Proofs.YtgfkcoablfjbcaaGreat
section
open Go Go.RowKit
namespace Rg
variable {P:Program} {Q:Exit→Act→World→Prop} {md:Region.Mode}
def FI (md:Region.Mode) (ops:Array Oper):Nat→Nat→Nat→Bool
 | 0,_,_=>false
 | f+1,i,j=>match ops[i]? with
  | some o=>o.after.toList.any (fun e=>Region.binds md e && e.on == j) || o.after.toList.any (fun e=>Region.binds md e && FI md ops f e.on j)
  | none=>false
def io (md:Region.Mode) (ops:Array Oper) (n0:Nat):Bool:=decide (n0≤ops.size) && (List.range ops.size).all fun i=>decide (i<n0) || ((match ops[i]? with | some o=>o.guard.isNone | none=>true) && (List.range i).all fun j=>FI md ops 3 i j)
def aW (P:Program) (Q:Exit→Act→World→Prop):List Oper→Act→World→Prop
 | [],a,w=>Q .normal a w
 | o :: os,a,w=>o.wp P a w (fun a' w'=>aW P Q os a' w') Q
theorem jl {ops:Array Oper} {L:Array Bool} (hdc:∀ i o,ops[i]?=some o→L.getD i false=true→∀ e ∈ o.after,Region.binds md e=true→L.getD e.on false=true):∀ (f i j:Nat) (o:Oper),ops[i]?=some o→
  (∀ e ∈ o.after,Region.binds md e=true→L.getD e.on false=true)→FI md ops f i j=true→L.getD j false=true
 | 0,_,_,_,_,_,h=>by simp [FI] at h
 | f+1,i,j,o,ho,hd,h=>by
  unfold FI at h;rw [ho] at h;simp only [Bool.or_eq_true,List.any_eq_true,Bool.and_eq_true,beq_iff_eq] at h
  rcases h with ⟨e,he,hb,rfl⟩ | ⟨e,he,hb,ha⟩
  ·exact hd e (Array.mem_toList_iff.1 he) hb
  have hde:=hd e (Array.mem_toList_iff.1 he) hb
  cases ho2:ops[e.on]? with
  | none=>
   exfalso
   cases f with
   | zero=>simp [FI] at ha
   | succ f=>unfold FI at ha;rw [ho2] at ha;exact absurd ha (by simp)
  | some o2=>exact jl hdc f e.on j o2 ho2 (hdc e.on o2 ho2 hde) ha
theorem lY {ops:Array Oper} {n0:Nat} (ht:io md ops n0=true):n0≤ops.size∧∀ i,i<ops.size→n0≤i→(∀ o,ops[i]?=some o→o.guard=none)∧∀ j,j<i→FI md ops 3 i j=true:=by
 rw [io,Bool.and_eq_true] at ht;refine ⟨of_decide_eq_true ht.1,fun i hi hn=>?_⟩;have:=List.all_eq_true.1 ht.2 i (List.mem_range.2 hi);simp only [Bool.or_eq_true,decide_eq_true_eq,Bool.and_eq_true,List.all_eq_true,List.mem_range] at this
 rcases this with q | ⟨q1,q2⟩
 ·omega
 refine ⟨fun o ho=>?_,q2⟩;rw [ho] at q1;exact Option.isNone_iff_eq_none.1 q1
theorem qM {L:Array Bool} {i:Nat} (h:i<L.size):L.getD i true=L.getD i false:=by
 simp only [Array.getD_eq_getD_getElem?];rw [Array.getElem?_eq_getElem h];rfl
theorem pi {ops:Array Oper} {n0:Nat} (ht:io md ops n0=true) (hac:∀ i o,ops[i]?=some o→∀ e ∈ o.after,Region.binds md e=true→e.on<i) :
  ∀ (fuel:Nat) (L:Array Bool) (a:Act) (w:World) (k:Nat),n0≤k→k≤ops.size→L.size=ops.size→(∀ j,j<ops.size→L.getD j false=decide (j<k))→
  ops.size - k≤fuel→aW P Q (ops.toList.drop k) a w→wpAny P md ops Q fuel L a w:=by
 obtain ⟨-,htl⟩:=lY ht
 have IR:∀ (L:Array Bool) (k:Nat),n0≤k→(∀ j,j<ops.size→L.getD j false=decide (j<k))→L.size=ops.size→∀ i,i ∈ Region.ready md ops L→i=k∧i<ops.size:=by
  intro L k hk hL hsz i hi;obtain ⟨hun,o,ho,C9⟩:=mem_ready.1 hi;have hilt:i<ops.size:=(Array.getElem?_eq_some_iff.1 ho).1;rw [qM (by omega),hL i hilt,decide_eq_false_iff_not] at hun;refine ⟨?_,hilt⟩
  rcases Nat.lt_or_ge k i with q | q
  ·exfalso
   have hdc:∀ i o,ops[i]?=some o→L.getD i false=true→∀ e ∈ o.after,Region.binds md e=true→L.getD e.on false=true:=by
    intro i' o' ho' hl' e he hb;have hi':i'<ops.size:=(Array.getElem?_eq_some_iff.1 ho').1;rw [hL i' hi',decide_eq_true_eq] at hl';have:=hac i' o' ho' e he hb;rw [hL e.on (by omega),decide_eq_true_eq];omega
   have:=jl hdc 3 i k o ho C9 ((htl i hilt (by omega)).2 k q);rw [hL k (by omega),decide_eq_true_eq] at this;omega
  omega
 have hend:∀ (L:Array Bool) (a:Act) (w:World) (k:Nat),n0≤k→k≤ops.size→L.size=ops.size→(∀ j,j<ops.size→L.getD j false=decide (j<k))→aW P Q (ops.toList.drop k) a w→Region.ready md ops L=[]→Q .normal a w:=by
  intro L a w k hk hk2 hsz hL h hr
  have hks:k=ops.size:=by
   rcases Nat.lt_or_ge k ops.size with q | q
   ·exfalso
    have hm:k ∈ Region.ready md ops L:=by
     refine mem_ready.2 ⟨?_,_,Array.getElem?_eq_getElem q,fun e he hb=>?_⟩
     ·rw [qM (by omega),hL k q]
      simp
     have:=hac k _ (Array.getElem?_eq_getElem q) e he hb;rw [hL e.on (by omega),decide_eq_true_eq];exact this
    rw [hr] at hm;cases hm
   omega
  subst hks;rw [List.drop_eq_nil_of_le (by simp)] at h;exact h
 intro fuel
 induction fuel with
 | zero=>
  intro L a w k hk hk2 hsz hL hf h
  have hr:Region.ready md ops L=[]:=by
   rw [List.eq_nil_iff_forall_not_mem];intro i hi;have:=IR L k hk hL hsz i hi;omega
  exact ⟨hr,hend L a w k hk hk2 hsz hL h hr⟩
 | succ fuel ih=>
 intro L a w k hk hk2 hsz hL hf h;refine ⟨hend L a w k hk hk2 hsz hL h,fun i hi=>?_⟩;obtain ⟨rfl,hilt⟩:=IR L k hk hL hsz i hi;have ho:ops[i]?=some ops[i]:=Array.getElem?_eq_getElem hilt
 have hdr:ops.toList.drop i=ops[i] :: ops.toList.drop (i+1):=by
  rw [List.drop_eq_getElem_cons (by simpa using hilt)];simp
 rw [hdr] at h;unfold wpOp;rw [ho]
 dsimp only
 have hg:=(htl i hilt hk).1 _ ho
 have hw:Region.wanted ops[i] (yielded ops a.tmps)=true:=by
  unfold Region.wanted;rw [hg]
 rw [if_pos hw];refine Or.inl (Oper.wp_mono ?_ h);intro a' w' h';refine ih _ a' w' (i+1) (by omega) (by omega) (by simpa using hsz) (fun j hj=>?_) (by omega) h';simp only [Array.getD_eq_getD_getElem?]
 by_cases hji:j=i
 ·subst hji
  rw [Array.getElem?_setIfInBounds_self_of_lt (by omega)];simp
 rw [Array.getElem?_setIfInBounds_ne (fun e=>hji e.symm)];have:=hL j hj;simp only [Array.getD_eq_getD_getElem?] at this;rw [this,decide_eq_decide];omega
theorem qQ {l:Nat→Bool} {k:Nat}:∀ n:Nat,(∀ j,j<n→l j=decide (j<k))→left l n=n - min k n
 | 0,_=>by simp [left]
 | n+1,h=>by
  unfold left;rw [qQ n (fun j hj=>h j (by omega)),h n (by omega)]
  by_cases q:n<k
  ·rw [decide_eq_true q,if_pos rfl]
   omega
  rw [decide_eq_false q,if_neg (by decide)];omega
theorem iR {l:Nat→Bool} {v:Nat→Value}:∀ (os:List Oper) (k m:Nat) (a:Act),(∀ j,k≤j→j<k+os.length→l j=decide (j<k+m))→fill l v os k a=fill (fun _=>true) v (os.take m) k a
 | [],k,m,a,_=>by rw [List.take_nil];rfl
 | o :: os,k,0,a,h=>by
  rw [List.take_zero];unfold fill
  rw [h k (yN _) (by simp),decide_eq_false (by omega),if_neg (by decide),iR os (k+1) 0 a (fun j h1 h2=>by
   rw [h j (by omega) (by simp;omega),decide_eq_decide]
   omega),List.take_zero]
  rfl
 | o :: os,k,m+1,a,h=>by
  rw [List.take_succ_cons];unfold fill;rw [h k (yN _) (by simp),decide_eq_true (by omega),if_pos rfl]
  exact iR os (k+1) m _ fun j h1 h2=>by
   rw [h j (by omega) (by simp;omega),decide_eq_decide];omega
section
variable (P) (Q) (md) (ops:Array Oper) (S:World→Prop) (V:Nat→Value→World→Prop) (a0:Act) (fr:Nat→Bool)
def sR (i:Nat) (o:Oper) (a:Act) (w:World):Prop:=
 if Region.wanted o (yielded ops a.tmps)=true then o.wp P a w (fun a' w'=>∃ v,a'=a.put o.dst v∧V i v w'∧S w'∧(∀ j u,V j u w→V j u w')∧(fr i=true→∀ j u,fr j=true→V j u w→u≠v)) Q else V i undef w∧fr i=false
def wV (i:Nat) (o:Oper):Prop:=∀ (a:Act) (w:World) (vals:Nat→Value),S w→(∀ e ∈ o.after,Region.binds md e=true→V e.on (vals e.on) w)→(∀ t ∈ o.looksAt ops,a.tmps[t]?=rd md ops a0 vals o t)→sR P Q ops S V fr i o a w
def ji:List Oper→Nat→Prop
 | [],_=>True
 | o :: os,k=>wV P Q md ops S V a0 fr k o∧ji os (k+1)
theorem ji.at {os:List Oper} {k:Nat} (h:ji P Q md ops S V a0 fr os k):∀ {i:Nat} {o:Oper},os[i]?=some o→wV P Q md ops S V a0 fr (k+i) o:=by
 induction os generalizing k with
 | nil=>intro i o hi;simp at hi
 | cons x os ih=>
 intro i o hi
 cases i with
 | zero=>
  simp only [List.getElem?_cons_zero,Option.some.injEq] at hi;subst hi;exact h.1
 | succ i=>
 have:=ih h.2 (i:=i) (o:=o) (by simpa using hi);rw [show k+(i+1)=k+1+i from by omega];exact this
def xU (L:Array Bool) (a:Act) (w:World):Prop:=
 L.size=ops.size∧S w∧(∀ i o,ops[i]?=some o→L.getD i false=true→∀ e ∈ o.after,Region.binds md e=true→L.getD e.on false=true)∧
 ∃ vals:Nat→Value,a=fill (fun j=>L.getD j false) vals ops.toList 0 a0∧(∀ i,i<ops.size→L.getD i false=true→V i (vals i) w)∧
  ∀ i j,i<ops.size→j<ops.size→L.getD i false=true→L.getD j false=true→i≠j→fr i=true→fr j=true→vals i≠vals j
end
theorem rz {ops:Array Oper} {S:World→Prop} {V:Nat→Value→World→Prop} {a0:Act} {n0:Nat} {fr:Nat→Bool} (hok:dw md ops a0.tmps.size=true) (ht:io md ops n0=true)
  (hR:ji P Q md ops S V a0 fr (ops.toList.take n0) 0) (hF:∀ (vals:Nat→Value) (w:World),S w→(∀ i,i<n0→V i (vals i) w)→(∀ i j,i<n0→j<n0→i≠j→fr i=true→fr j=true→vals i≠vals j)→aW P Q (ops.toList.drop n0) (fill (fun _=>true) vals (ops.toList.take n0) 0 a0) w) :
  ∀ (fuel:Nat) (L:Array Bool) (a:Act) (w:World),left (fun j=>L.getD j false) ops.size≤fuel→(∀ i,i<ops.size→L.getD i false=true→i<n0)→xU md ops S V a0 fr L a w→wpAny P md ops Q fuel L a w:=by
 obtain ⟨hn0,hta⟩:=lY ht;rw [dw,Bool.and_eq_true,Bool.and_eq_true] at hok;obtain ⟨⟨hap,hrd⟩,hac⟩:=hok
 have A3:∀ i o,ops[i]?=some o→(∀ e ∈ o.after,Region.binds md e=true→e.on<i)∧∀ d,o.dst=some d→d<a0.tmps.size:=fun i o hi=>by
  have hlt:i<ops.size:=(Array.getElem?_eq_some_iff.1 hi).1;have:=List.all_eq_true.1 hac i (List.mem_range.2 hlt);rw [hi] at this;simp only [Bool.and_eq_true,List.all_eq_true,Bool.or_eq_true,Bool.not_eq_true',decide_eq_true_eq] at this;refine ⟨fun e he hb=>?_,fun d hd=>?_⟩
  ·rcases this.1 e (Array.mem_toList_iff.2 he) with q | q
   ·rw [hb] at q;cases q
   exact q
  have:=this.2;rw [hd] at this
  simpa using this
 have htl:∀ i,ops.toList[i]?=ops[i]?:=fun i=>Array.getElem?_toList
 have hall:∀ L:Array Bool,L.size=ops.size→Region.ready md ops L=[]→∀ i,i<ops.size→L.getD i false=true:=by
  intro L hL hr i
  induction i using Nat.strongRecOn with
  | ind i ih=>
  intro hi
  cases hl:L.getD i false
  ·exfalso
   have hm:i ∈ Region.ready md ops L:=by
    unfold Region.ready;rw [List.mem_filter];refine ⟨List.mem_range.2 hi,?_⟩
    have hg:L.getD i true=false:=by
     rw [Array.getD_eq_getD_getElem?,Array.getElem?_eq_getElem (by omega)] at hl ⊢;exact hl
    rw [hg,Array.getElem?_eq_getElem hi];simp only [Bool.not_false,Bool.true_and,Option.map_some,Option.getD_some];rw [Array.all_eq_true_iff_forall_mem];intro e he
    cases hb:Region.binds md e
    ·rfl
    have hlt:=(A3 i _ (Array.getElem?_eq_getElem hi)).1 e he hb;simp [ih e.on hlt (by omega)]
   rw [hr] at hm;cases hm
  rfl
 have hdone:∀ (fuel:Nat) (L:Array Bool) (a:Act) (w:World),left (fun j=>L.getD j false) ops.size≤fuel→(∀ i,i<ops.size→L.getD i false=true→i<n0)→xU md ops S V a0 fr L a w→(∀ j,j<n0→L.getD j false=true)→wpAny P md ops Q fuel L a w:=by
  rintro fuel L a w hl hb ⟨hL,hS,hdc,vals,rfl,hv,hfr⟩ hj
  have MX:∀ j,j<ops.size→L.getD j false=decide (j<n0):=fun j hjs=>by
   by_cases q:j<n0
   ·rw [hj j q,decide_eq_true q]
   rw [decide_eq_false q]
   cases hc:L.getD j false
   ·rfl
   exact absurd (hb j hjs hc) q
  rw [qQ (k:=n0) ops.size MX] at hl;refine pi ht (fun i o hi=>(A3 i o hi).1) fuel L _ w n0 (yN _) hn0 hL MX (by omega) ?_;rw [iR (l:=fun j=>L.getD j false) (m:=n0) ops.toList 0 a0 (fun j _ h2=>by rw [Nat.zero_add];exact MX j (by simpa using h2))]
  exact hF vals w hS (fun i hi=>hv i (by omega) (hj i hi)) fun i j hi hj' hne=>hfr i j (by omega) (by omega) (hj i hi) (hj j hj') hne
 intro fuel
 induction fuel with
 | zero=>
  intro L a w hl hb hI;have hz:=gJ _ (Nat.le_zero.1 hl);exact hdone 0 L a w hl hb hI (fun j hj=>hz j (by omega))
 | succ fuel ih=>
 intro L a w hl hb hI
 by_cases hj:∀ j,j<n0→L.getD j false=true
 ·exact hdone _ L a w hl hb hI hj
 refine ⟨fun hr=>absurd (fun j hjn=>hall L hI.1 hr j (by omega)) hj,fun i hi=>?_⟩;obtain ⟨hL,hS,hdc,vals,rfl,hv,hfr⟩:=hI;obtain ⟨hun,o,ho,C9⟩:=mem_ready.1 hi;have hilt:i<ops.size:=(Array.getElem?_eq_some_iff.1 ho).1
 have hin:i<n0:=by
  rcases Nat.lt_or_ge i n0 with q | q
  ·exact q
  exact absurd (fun j hjn=>jl hdc 3 i j o ho C9 ((hta i hilt q).2 j (by omega))) hj
 have hun':L.getD i false=false:=by
  simp only [Array.getD_eq_getD_getElem?] at hun ⊢;rw [Array.getElem?_eq_getElem (by omega)] at hun ⊢;exact hun
 have hq:=ji.at P Q md ops S V a0 fr hR (i:=i) (o:=o) (by rw [List.getElem?_take_of_lt hin,htl];exact ho);rw [Nat.zero_add] at hq
 have hst:=hq (fill (fun j=>L.getD j false) vals ops.toList 0 a0) w vals hS
  (fun e he hb=>hv e.on (by have:=(A3 i o ho).1 e he hb;omega) (C9 e he hb))
  (fun t ht=>by
   unfold rd
   have hr1:gj md ops i o t=true:=by
    have:=List.all_eq_true.1 hrd i (List.mem_range.2 hilt);rw [ho] at this;exact List.all_eq_true.1 this t ht
   cases hf:o.after.toList.find? (fun e=>Region.binds md e && ((ops[e.on]?).bind (·.dst)) == some t) with
   | some e=>
    have h1:=List.find?_some hf;have h2:=List.mem_of_find?_eq_some hf;rw [Bool.and_eq_true,beq_iff_eq] at h1;obtain ⟨x,hx,hxd⟩:=Option.bind_eq_some_iff.1 h1.2;have h3:=C9 e (Array.mem_toList_iff.1 h2) h1.1;have:=jM (l:=fun j=>L.getD j false) (v:=vals) ops.toList 0 e.on x a0 hap (by rw [htl];exact hx) (by simpa using h3) hxd ((A3 e.on x hx).2 t hxd);rw [Nat.zero_add] at this;exact this
   | none=>
   refine eO ops.toList 0 a0 fun j x hx hlj hxd=>?_
   rw [Nat.zero_add] at hlj;rw [htl] at hx;have hjlt:j<ops.size:=(Array.getElem?_eq_some_iff.1 hx).1;rw [gj,Bool.or_eq_true] at hr1
   rcases hr1 with q | q
   ·obtain ⟨e,he,hp⟩:=List.any_eq_true.1 q
    have:=List.find?_eq_none.1 hf e he;exact this hp
   have:=List.all_eq_true.1 q j (List.mem_range.2 hjlt);rw [hx] at this;simp only [Bool.or_eq_true,bne_iff_ne,ne_eq,beq_iff_eq,List.any_eq_true,Bool.and_eq_true] at this
   rcases this with (q1 | q1) | ⟨e,he,hb,hon⟩
   ·exact q1 hxd
   ·subst q1
    rw [hun'] at hlj;cases hlj
   have:=hdc j x hx hlj e (Array.mem_toList_iff.1 he) hb;rw [hon,hun'] at this
   cases this)
 have hnext:∀ (v:Value) (w':World),V i v w'→S w'→(∀ j u,V j u w→V j u w')→(fr i=true→∀ j u,fr j=true→V j u w→u≠v)→wpAny P md ops Q fuel (L.setIfInBounds i true) ((fill (fun j=>L.getD j false) vals ops.toList 0 a0).put o.dst v) w':=by
  intro v w' h1 h2 h3 h4
  have e1:∀ j,(L.setIfInBounds i true).getD j false=if j=i then true else L.getD j false:=fun j=>by
   simp only [Array.getD_eq_getD_getElem?]
   by_cases hji:j=i
   ·subst hji
    rw [Array.getElem?_setIfInBounds_self_of_lt (by omega)];simp
   rw [Array.getElem?_setIfInBounds_ne (fun e=>hji e.symm),if_neg hji]
  refine ih _ _ _ ?_ (fun j hjs hlj=>by rw [e1] at hlj;split at hlj <;> first | omega | exact hb j hjs hlj) ⟨by simpa using hL,h2,?_,fun j=>if j=i then v else vals j,?_,?_,?_⟩
  ·have:=iC (l:=fun j=>L.getD j false) (l':=fun j=>(L.setIfInBounds i true).getD j false) hun' (by rw [e1,if_pos rfl]) (fun j hj=>by rw [e1,if_neg hj]) ops.size hilt
   omega
  ·intro j x hx hlj e he hb
   rw [e1] at hlj ⊢
   split
   ·rfl
   split at hlj
   ·rename_i hji
    subst hji;rw [ho] at hx;cases hx
    exact C9 e he hb
   exact hdc j x hx hlj e he hb
  ·rw [hP ops.toList 0 i o a0 hap (by rw [htl];exact ho) (by simpa using hun')]
   rw [Nat.zero_add];exact cH _ _ _ (fun j _ _=>(e1 j).symm) (fun _ _ _=>rfl)
  ·intro j hj hlj
   rw [e1] at hlj
   show V j (if j=i then v else vals j) w'
   split
   ·rename_i hji
    rw [hji];exact h1
   rename_i hji
   rw [if_neg hji] at hlj;exact h3 _ _ (hv j hj hlj)
  intro j k hj hk hlj hlk hne fj fk;rw [e1] at hlj hlk
  show (if j=i then v else vals j)≠(if k=i then v else vals k)
  split at hlj
  ·rename_i hji
   subst hji;rw [if_pos rfl,if_neg (fun e=>hne e.symm)];rw [if_neg (fun e=>hne e.symm)] at hlk
   exact fun e=>h4 fj k (vals k) fk (hv k hk hlk) e.symm
  rename_i hji
  rw [if_neg hji]
  split at hlk
  ·rename_i hki
   rw [if_pos hki];subst hki;exact h4 fk j (vals j) fj (hv j hj hlj)
  rename_i hki
  rw [if_neg hki];exact hfr j k hj hk hlj hlk hne fj fk
 unfold wpOp;rw [ho];unfold sR at hst
 dsimp only
 split at hst
 ·rename_i hw
  rw [if_pos hw];refine Or.inl (Oper.wp_mono ?_ hst);rintro a' w' ⟨v,rfl,h1,h2,h3,h4⟩;exact hnext v w' h1 h2 h3 h4
 rename_i hw
 rw [if_neg hw]
 exact hnext undef w hst.1 hS (fun _ _ h=>h) fun e=>by rw [hst.2] at e;cases e
theorem vW {id:Nat} {ops:Array Oper} {a0:Act} {w:World} {n0:Nat} (fr:Nat→Bool) (S:World→Prop) (V:Nat→Value→World→Prop) (hm:P.follows .mixedOrders=true) (hok:dw .any ops a0.tmps.size=true) (ht:io .any ops n0=true)
  (hS:S { w with drawn:=w.drawn+1 }) (hR:ji P Q .any ops S V a0 fr (ops.toList.take n0) 0)
  (hF:∀ (vals:Nat→Value) (w:World),S w→(∀ i,i<n0→V i (vals i) w)→(∀ i j,i<n0→j<n0→i≠j→fr i=true→fr j=true→vals i≠vals j)→aW P Q (ops.toList.drop n0) (fill (fun _=>true) vals (ops.toList.take n0) 0 a0) w):(Code.region id ops true).wp P Q a0 w:=by
 have rep:∀ j,(Array.replicate ops.size false).getD j false=false:=fun j=>by
  rw [Array.getD_eq_getD_getElem?,Array.getElem?_replicate]
  split <;> rfl
 refine wp_region_any hm (rz hok ht hR hF _ _ _ _ ?_ (fun i _ hl=>by rw [rep] at hl;cases hl) ⟨by simp,hS,?_,fun _=>undef,?_,?_,?_⟩)
 ·have:∀ (l:Nat→Bool) n,left l n≤n:=fun l n=>by
   induction n with
   | zero=>exact yN _
   | succ n ih=>unfold left;split <;> omega
  exact this _ _
 ·intro i o hi hl
  rw [rep] at hl;cases hl
 ·have:∀ (v:Nat→Value) (os:List Oper) (k:Nat) (a:Act),fill (fun _=>false) v os k a=a:=fun v os=>by
   induction os with
   | nil=>intro k a;rfl
   | cons x os ih=>intro k a;unfold fill;simp [ih]
  refine (this _ ops.toList 0 a0).symm.trans (cH _ _ _ (fun j _ hj=>(rep j).symm) (fun _ _ _=>rfl))
 ·intro i hi hl
  rw [rep] at hl;cases hl
 intro i j _ _ hl;rw [rep] at hl;cases hl
def pu (P:Program) (ops:Array Oper) (Q:Exit→Act→World→Prop) (a0:Act) (T:List Val) (w1:World) (i:Nat) (o:Oper):Prop:=
 match AJ T i with
 | .new B Ty xs=>∀ (a:Act) (w:World),Below w1.heap.size w1 w→(∀ t ∈ o.looksAt ops,qm ops a0 T o a w t)→B≤w.heap.size∧Region.wanted o (yielded ops a.tmps)=true∧(execOp a.eval o).run P w=.ok (.value (.pointer (some ⟨w.heap.size,0,none⟩))) (w.alloc (.cells xs Ty))
 | V=>∀ (a:Act) (w:World),Below w1.heap.size w1 w→(∀ t ∈ o.looksAt ops,qm ops a0 T o a w t)→Does P ops Q V o a w
def Val.lI:Val→Bool
 | .new _ _ _=>true
 | _=>false
def pA (P:Program) (ops:Array Oper) (Q:Exit→Act→World→Prop) (a0:Act) (T:List Val) (w1:World) (n0:Nat):List Oper→Nat→Prop
 | [],_=>True
 | o :: os,k=>(k<n0→pu P ops Q a0 T w1 k o)∧pA P ops Q a0 T w1 n0 os (k+1)
theorem vX {ops:Array Oper} {a0:Act} {T:List Val} {w1:World} {k:Nat} {o:Oper} (h:pu P ops Q a0 T w1 k o):wV P Q .any ops (fun w=>Below w1.heap.size w1 w) (fun i v w=>(AJ T i).ok v w) a0 (fun i=>(AJ T i).lI) k o:=by
 intro a w vals hS hv hr
 have hl:∀ t ∈ o.looksAt ops,qm ops a0 T o a w t:=fun t ht=>by
  have:=hr t ht;unfold rd at this;unfold qm
  split
  ·rename_i e he
   rw [he] at this;have h2:=List.find?_some he;rw [Bool.and_eq_true] at h2;exact ⟨_,this,hv e (Array.mem_toList_iff.1 (List.mem_of_find?_eq_some he)) h2.1⟩
  rename_i he
  rw [he] at this;exact this
 unfold sR
 dsimp only
 by_cases hn:(AJ T k).lI=true
 ·cases hT:AJ T k with
  | new B Ty xs=>
   unfold pu at h;rw [hT] at h;obtain ⟨h0,h1,h2⟩:=h a w hS hl;rw [if_pos h1];unfold Oper.wp;rw [h2];refine ⟨_,rfl,⟨w.heap.size,h0,rfl,?_⟩,hS.trans (((yM _ _).alloc (yN _) _).mono hS.size),fun j u hu=>Val.keep ((yM _ _).alloc (yN _) _) _ _ hu,fun _ j u hj hu=>?_⟩
   ·show (w.heap.push _)[w.heap.size]?=_
    simp
   cases hTj:AJ T j with
   | new B' Ty' xs'=>
    rw [hTj] at hu;obtain ⟨g,-,rfl,hg⟩:=hu;intro e;have hlt:=(Array.getElem?_eq_some_iff.1 hg).1
    injection e with e
    injection e with e
    injection e with e
    omega
   | _=>rw [hTj] at hj;cases hj
  | _=>rw [hT] at hn;cases hn
 have h1:Does P ops Q (AJ T k) o a w:=by
  unfold pu at h
  split at h
  ·rename_i hT
   rw [hT] at hn;exact absurd rfl hn
  exact h a w hS hl
 unfold Does at h1
 split
 ·rename_i hw
  rw [if_pos hw] at h1;refine Oper.wp_mono ?_ h1;rintro a' w' ⟨v,e1,e2,e3⟩;exact ⟨v,e1,e2,i_ hS e3,fun j u hu=>Val.keep e3 _ _ hu,fun e=>absurd e hn⟩
 rename_i hw
 rw [if_neg hw] at h1;exact ⟨h1,by simpa using hn⟩
theorem lS {ops:Array Oper} {a0:Act} {T:List Val} {w1:World} {n0:Nat}:∀ (os:List Oper) (k m:Nat),k+m=n0→pA P ops Q a0 T w1 n0 os k→ji P Q .any ops (fun w=>Below w1.heap.size w1 w) (fun i v w=>(AJ T i).ok v w) a0 (fun i=>(AJ T i).lI) (os.take m) k
 | [],_,m,_,_=>by rw [List.take_nil];trivial
 | o :: os,k,0,_,_=>by rw [List.take_zero];trivial
 | o :: os,k,m+1,h,hr=>by rw [List.take_succ_cons];exact ⟨vX (hr.1 (by omega)),lS os (k+1) m (by omega) hr.2⟩
theorem bK {id:Nat} {ops:Array Oper} {a0:Act} {w:World} (n0:Nat) (T:List Val) (hm:P.follows .mixedOrders=true) (hok:dw .any ops a0.tmps.size=true) (ht:io .any ops n0=true)
  (hR:pA P ops Q a0 T w n0 ops.toList 0)
  (hF:∀ (vals:Nat→Value) (w':World),Below w.heap.size w w'→(∀ i,i<n0→(AJ T i).ok (vals i) w')→(∀ i j,i<n0→j<n0→i≠j→(AJ T i).lI=true→(AJ T j).lI=true→vals i≠vals j)→aW P Q (ops.toList.drop n0) (fill (fun _=>true) vals (ops.toList.take n0) 0 a0) w'):(Code.region id ops true).wp P Q a0 w:=
 vW (fun i=>(AJ T i).lI) (fun w'=>Below w.heap.size w w') (fun i v w'=>(AJ T i).ok v w') hm hok ht ((yM _ w).drew) (lS _ 0 n0 (Nat.zero_add _) hR) hF
theorem af {p:Value→World→Prop} {v:Value} {w:World} (h:(Val.at p).ok v w):p v w:=h w (yM _ _)
end Rg
end
section
open Go.RowKit
def aH (W:World) (g:Nat) (T:TypeId) (xs:Array Value):Prop:=W.heap[g]?=some (.cells xs T (0,0))
namespace aH
variable {W W':World} {g:Nat} {T:TypeId} {xs:Array Value}
theorem lt (h:aH W g T xs):g<W.heap.size:=(Array.getElem?_eq_some_iff.1 h).1
theorem keep (h:aH W g T xs) (hb:Below W.heap.size W W'):aH W' g T xs:=(hb.block g h.lt).trans h
theorem new (w:World) (xs:Array Value) (T:TypeId):aH (w.alloc (.cells xs T)) w.heap.size T xs:=by
 show (w.heap.push (.cells xs T))[w.heap.size]?=_
 simp
theorem alloc (h:aH W g T xs) (o:Obj):aH (W.alloc o) g T xs:=h.keep ((yM _ _).alloc (yN _) o)
theorem drew (h:aH W g T xs):aH W.drew g T xs:=h
theorem cell (h:aH W g T xs) (i:Nat):W.cell? ⟨g,i,none⟩=xs[i]?:=by
 unfold aH at h;simp [World.cell?,h]
theorem yW (h:aH W g T xs) (i:Nat):W.frozen? ⟨g,i,none⟩=false:=by
 unfold aH at h;simp [World.frozen?,h]
theorem set (h:aH W g T xs) (i:Nat) (x:Value):aH (W.setCell ⟨g,i,none⟩ x) g T (xs.setIfInBounds i x):=by
 have hl:=h.lt;unfold aH at *;rw [World.setCell]
 show (W.heap.modify g _)[g]?=_
 rw [Array.getElem?_modify,if_pos rfl,h];rfl
theorem other (h:aH W g T xs) {k i:Nat} (hk:g≠k) (x:Value):aH (W.setCell ⟨k,i,none⟩ x) g T xs:=by
 unfold aH at *;rw [World.setCell]
 show (W.heap.modify k _)[g]?=_
 rw [Array.getElem?_modify,if_neg (fun e=>hk e.symm),h]
theorem box {u v:Value} (h:aH W g T #[u,v]):ai W g u v:=⟨h.cell 0,h.cell 1,h.yW 0,h.yW 1,h.lt⟩
theorem aM {u v x y:Value} (h:aH W g T #[u,v,x,y]):iL W g u v x y:=by
 refine ⟨h.cell 0,h.cell 1,h.cell 2,h.cell 3,h.yW 0,h.yW 1,h.yW 2,h.yW 3,h.lt⟩
theorem set2 {u v:Value} (h:aH W g T #[u,v]) (x y:Value):aH ((W.setCell ⟨g,0,none⟩ x).setCell ⟨g,1,none⟩ y) g T #[x,y]:=(h.set 0 x).set 1 y
theorem k8 {u v p q:Value} (h:aH W g T #[u,v,p,q]) (x y z t:Value):aH ((((W.setCell ⟨g,0,none⟩ x).setCell ⟨g,1,none⟩ y).setCell ⟨g,2,none⟩ z).setCell ⟨g,3,none⟩ t) g T #[x,y,z,t]:=(((h.set 0 x).set 1 y).set 2 z).set 3 t
theorem b2 {u v:Value} (h:aH W g T #[u,v]):W.cell? ⟨g,0,none⟩=some u∧W.cell? ⟨g,1,none⟩=some v:=⟨h.cell 0,h.cell 1⟩
theorem zY {u v:Value} (h:aH W g T #[u,v]):W.cell? ⟨g,0,none⟩=some u∧W.cell? ⟨g,1,none⟩=some v∧W.frozen? ⟨g,0,none⟩=false∧W.frozen? ⟨g,1,none⟩=false:=⟨h.cell 0,h.cell 1,h.yW 0,h.yW 1⟩
theorem b4 {u v x y:Value} (h:aH W g T #[u,v,x,y]):W.cell? ⟨g,0,none⟩=some u∧W.cell? ⟨g,1,none⟩=some v∧W.cell? ⟨g,2,none⟩=some x∧W.cell? ⟨g,3,none⟩=some y:=⟨h.cell 0,h.cell 1,h.cell 2,h.cell 3⟩
theorem ym {u v x y:Value} (h:aH W g T #[u,v,x,y]):W.cell? ⟨g,0,none⟩=some u∧W.cell? ⟨g,1,none⟩=some v∧W.cell? ⟨g,2,none⟩=some x∧W.cell? ⟨g,3,none⟩=some y∧W.frozen? ⟨g,0,none⟩=false∧W.frozen? ⟨g,1,none⟩=false∧W.frozen? ⟨g,2,none⟩=false∧W.frozen? ⟨g,3,none⟩=false:=⟨h.cell 0,h.cell 1,h.cell 2,h.cell 3,h.yW 0,h.yW 1,h.yW 2,h.yW 3⟩
theorem one {u:Value} (h:aH W g T #[u]) (x:Value):aH (W.setCell ⟨g,0,none⟩ x) g T #[x]:=h.set 0 x
end aH
theorem bA (w:World) (o:Obj):Below w.heap.size w (w.alloc o):=(yM _ w).alloc (yN _) o
theorem gU (w:World) (xs1:Array Value) (T1:TypeId):∃ wc,w.alloc (.cells xs1 T1)=wc∧aH wc w.heap.size T1 xs1∧Below w.heap.size w wc:=
 ⟨_,rfl,aH.new w xs1 T1,bA w _⟩
theorem ki (w:World) (xs1:Array Value) (T1:TypeId) (xs2:Array Value) (T2:TypeId):∃ wc,(w.alloc (.cells xs1 T1)).alloc (.cells xs2 T2)=wc∧aH wc w.heap.size T1 xs1∧aH wc (w.heap.size+1) T2 xs2∧Below w.heap.size w wc:=by
 obtain ⟨wc,rfl,h1,hb⟩:=gU w xs1 T1;have h2:=aH.new (w.alloc (.cells xs1 T1)) xs2 T2;rw [yK] at h2;exact ⟨_,rfl,h1.alloc _,h2,hb.alloc hb.size _⟩
theorem kj (w:World) (xs1:Array Value) (T1:TypeId) (xs2:Array Value) (T2:TypeId) (FZ:Array Value) (T3:TypeId):∃ wc,((w.alloc (.cells xs1 T1)).alloc (.cells xs2 T2)).alloc (.cells FZ T3)=wc∧aH wc w.heap.size T1 xs1∧aH wc (w.heap.size+1) T2 xs2∧aH wc (w.heap.size+1+1) T3 FZ∧Below w.heap.size w wc:=by
 obtain ⟨wc,rfl,h1,h2,hb⟩:=ki w xs1 T1 xs2 T2;have h3:=aH.new ((w.alloc (.cells xs1 T1)).alloc (.cells xs2 T2)) FZ T3;rw [yK,yK] at h3;exact ⟨_,rfl,h1.alloc _,h2.alloc _,h3,hb.alloc hb.size _⟩
theorem lj (w:World) (xs1:Array Value) (T1:TypeId) (xs2:Array Value) (T2:TypeId) (FZ:Array Value) (T3:TypeId) (Nz:Array Value) (T4:TypeId):∃ wc,(((w.alloc (.cells xs1 T1)).alloc (.cells xs2 T2)).alloc (.cells FZ T3)).alloc (.cells Nz T4)=wc∧aH wc w.heap.size T1 xs1∧aH wc (w.heap.size+1) T2 xs2∧aH wc (w.heap.size+1+1) T3 FZ∧aH wc (w.heap.size+1+1+1) T4 Nz∧Below w.heap.size w wc:=by
 obtain ⟨wc,rfl,h1,h2,h3,hb⟩:=kj w xs1 T1 xs2 T2 FZ T3;have h4:=aH.new (((w.alloc (.cells xs1 T1)).alloc (.cells xs2 T2)).alloc (.cells FZ T3)) Nz T4;rw [yK,yK,yK] at h4;exact ⟨_,rfl,h1.alloc _,h2.alloc _,h3.alloc _,h4,hb.alloc hb.size _⟩
theorem aF.apart {W:World} {base g:Nat} {T:TypeId} {sl:Value} {xs:List Int} {ys:Array Value} (h:aF W base sl xs) (hv:aH W g T ys) (hT:T≠3):sl.ownBlock≠some g:=by
 intro e;obtain ⟨-,h⟩:=h
 rcases h with ⟨rfl,-⟩ | ⟨g',cap,cur,rfl,-,hh,-⟩
 ·simp [Value.ownBlock] at e
 simp only [Value.ownBlock,Option.some.injEq] at e;subst e;unfold aH at hv;rw [hv] at hh
 injection hh with hh
 injection hh with _ h2
 exact hT h2
theorem aF.di {W:World} {base g i:Nat} {T:TypeId} {sl:Value} {xs:List Int} {ys:Array Value} (h:aF W base sl xs) (hv:aH W g T ys) (hT:T≠3) (x:Value):aF (W.setCell ⟨g,i,none⟩ x) base sl xs:=by
 refine World.ownsRow.kept (row:=some g) h ⟨rfl,rfl,rfl,by simp [go_sem],fun k hk hne=>?_⟩ (by
  cases hs:sl.ownBlock with
  | none=>exact Or.inl rfl
  | some k=>exact Or.inr fun e=>h.apart hv hT (by rw [hs];exact e))
 rw [World.setCell]
 show (W.heap.modify g _)[k]?=_
 rw [Array.getElem?_modify,if_neg (fun e=>hne (by rw [e]))]
theorem aF.bF {W:World} {base g:Nat} {T:TypeId} {sl:Value} {xs:List Int} {u v:Value} (h:aF W base sl xs) (hv:aH W g T #[u,v]) (hT:T≠3) (x y:Value):aF ((W.setCell ⟨g,0,none⟩ x).setCell ⟨g,1,none⟩ y) base sl xs:=
 (h.di hv hT x).di (hv.set 0 x) hT y
theorem aF.dM {W:World} {base g:Nat} {T:TypeId} {sl:Value} {xs:List Int} {u v p q:Value} (h:aF W base sl xs) (hv:aH W g T #[u,v,p,q]) (hT:T≠3) (x y z t:Value):aF ((((W.setCell ⟨g,0,none⟩ x).setCell ⟨g,1,none⟩ y).setCell ⟨g,2,none⟩ z).setCell ⟨g,3,none⟩ t) base sl xs:=
 (((h.di hv hT x).di (hv.set 0 x) hT y).di ((hv.set 0 x).set 1 y) hT z).di (((hv.set 0 x).set 1 y).set 2 z) hT t
theorem kO {w w':World} {base:Nat} {sl:Value} {xs:List Int} (h:Hid (aF w base sl xs)) (hb:Below w.heap.size w w'):Hid (aF w' base sl xs):=yJ (aF.below h.out hb)
theorem sO {W:World} {base g:Nat} {T:TypeId} {sl:Value} {xs:List Int} {u v:Value} (h:Hid (aF W base sl xs)) (hv:aH W g T #[u,v]) (hT:T≠3) (x y:Value):Hid (aF ((W.setCell ⟨g,0,none⟩ x).setCell ⟨g,1,none⟩ y) base sl xs):=yJ (h.out.bF hv hT x y)
def aJ (base:Nat) (z:Int) (v:Value) (W:World):Prop:=∃ sl,v=.agg #[.bool (decide (z<0)),sl]∧aF W base sl (Wh.d_ z.natAbs)
theorem aJ.view {base:Nat} {z:Int} {v:Value} {W:World} (h:aJ base z v W):∃ (s:Bool) (a:Option Addr) (l c:Nat),Hid (s=decide (z<0))∧v=.agg #[.bool s,.slice a l c]∧aF W base (.slice a l c) (Wh.d_ z.natAbs):=by
 obtain ⟨sl,rfl,ho⟩:=h;obtain ⟨a,c,rfl,-,-⟩:=aF.view ho;exact ⟨_,a,_,c,yJ rfl,rfl,ho⟩
theorem aJ.Ju {base k:Nat} {z:Int} {sl:Value} {W:World} (h:aF W k sl (Wh.d_ z.natAbs)) (hk:base≤k):(Rg.Val.at (aJ base z)).ok (.agg #[.bool (decide (z<0)),sl]) W:=fun _ hb=>⟨sl,rfl,(aF.below h hb).base hk⟩
theorem aJ.at {base k:Nat} {z:Int} {sl:Value} {W:World} (h:ag W k sl z) (hk:base≤k):(Rg.Val.at (aJ base z)).ok (.agg #[.bool (decide (z<0)),sl]) W:=aJ.Ju h hk
def uj (base:Nat) (z r:Int) (v:Value) (W:World):Prop:=∃ sl,v=.tuple #[.agg #[.bool (decide (z<0)),sl],.int .i64 r]∧aF W base sl (Wh.d_ z.natAbs)
theorem uj.view {base:Nat} {z r:Int} {v:Value} {W:World} (h:uj base z r v W):∃ (s:Bool) (a:Option Addr) (l c:Nat),Hid (s=decide (z<0))∧v=.tuple #[.agg #[.bool s,.slice a l c],.int .i64 r]∧aF W base (.slice a l c) (Wh.d_ z.natAbs):=by
 obtain ⟨sl,rfl,ho⟩:=h;obtain ⟨a,c,rfl,-,-⟩:=aF.view ho;exact ⟨_,a,_,c,yJ rfl,rfl,ho⟩
theorem uj.at {base k:Nat} {z r:Int} {sl:Value} {W:World} (h:ag W k sl z) (hk:base≤k):(Rg.Val.at (uj base z r)).ok (.tuple #[.agg #[.bool (decide (z<0)),sl],.int .i64 r]) W:=fun _ hb=>⟨sl,rfl,(aF.below h hb).base hk⟩
def cE (base:Nat) (zs:List Int) (v:Value) (W:World):Prop:=∃ g,v=.slice (some ⟨g,0,none⟩) zs.length zs.length∧b6 W g zs
inductive bg (W:World):List Int→List Value→Prop where
 | nil:bg W [] []
 | cons {z:Int} {zs:List Int} {s:Bool} {a:Option Addr} {l c b:Nat} {us:List Value} (hs:s=decide (z<0)) (ho:aF W b (.slice a l c) (Wh.d_ z.natAbs)) (h:bg W zs us):bg W (z :: zs) (.bool s :: .slice a l c :: us)
theorem bg.get {W:World}:∀ {zs:List Int} {us:List Value},bg W zs us→∀ (k:Nat) (z:Int),zs[k]?=some z→∃ (a:Option Addr) (cap:Nat),us[k*2]?=some (.bool (decide (z<0)))∧us[k*2+1]?=some (.slice a (Wh.d_ z.natAbs).length cap)∧aF W 0 (.slice a (Wh.d_ z.natAbs).length cap) (Wh.d_ z.natAbs)
 | _,_,.nil,k,z,h=>by simp at h
 | _,_,.cons (l:=l) hs ho hr,0,z,h=>by
  simp only [List.getElem?_cons_zero,Option.some.injEq] at h;subst h;subst hs;obtain ⟨a',c',e,-,-⟩:=aF.view ho
  injection e with e1 e2 e3
  subst e1 e2 e3;exact ⟨_,_,rfl,rfl,ho.base (Nat.zero_le _)⟩
 | _,_,.cons hs ho hr,k+1,z,h=>by
  obtain ⟨a,cap,h1,h2,h3⟩:=hr.get k z (by simpa using h);refine ⟨a,cap,?_,?_,h3⟩
  ·rw [show (k+1)*2=k*2+1+1 by omega];simpa using h1
  rw [show (k+1)*2+1=k*2+1+1+1 by omega];simpa using h2
theorem cE.at {base:Nat} {zs:List Int} {us:List Value} {W:World} {T:TypeId} {n:Nat} (hb:base≤W.heap.size) (h:bg W zs us) (hn:n=zs.length):(Rg.Val.at (cE base zs)).ok (.slice (some ⟨W.heap.size,0,none⟩) n n) (W.alloc (.cells us.toArray T)):=by
 subst hn
 refine fun w' hb'=>⟨W.heap.size,rfl,fun k z hz=>?_⟩
 obtain ⟨a,cap,h1,h2,h3⟩:=h.get k z hz;have hv:=(aH.new W us.toArray T).keep hb';refine ⟨a,cap,(hv.cell _).trans (by simpa using h1),(hv.cell _).trans (by simpa using h2),aF.below (aF.alloc h3 _) hb'⟩
def xd (base:Nat) (T:TypeId) (xs:Array Value) (v:Value) (W:World):Prop:=∃ g,base≤g∧v=.pointer (some ⟨g,0,none⟩)∧aH W g T xs
theorem xd.at {base:Nat} {T:TypeId} {xs:Array Value} {W:World} (hb:base≤W.heap.size):(Rg.Val.at (xd base T xs)).ok (.pointer (some ⟨W.heap.size,0,none⟩)) (W.alloc (.cells xs T)):=
 fun _ hb'=>⟨_,hb,rfl,(aH.new W xs T).keep hb'⟩
theorem Rg.xJ {P:Program} {Q:Exit→Act→World→Prop} {ops:Array Oper} {o:Oper} {a:Act} {w:World} {x:Value} {V:Rg.Val} (hw:Region.wanted o (yielded ops a.tmps)=true) (h:(execOp a.eval o).run P w=.ok (.value x) w) (hV:V.ok x w):Rg.Does P ops Q V o a w:=by
 unfold Rg.Does;rw [if_pos hw];unfold Oper.wp;rw [h];exact ⟨x,rfl,hV,yM _ _⟩
theorem oj (w3:World) (n:Nat) (hn:w3.heap.size=n) (u v x y:Value) (T:TypeId) :
  (∃ gx gz,n≤gx∧n≤gz∧Value.pointer (some ⟨n,0,none⟩)=.pointer (some ⟨gx,0,none⟩)∧Value.pointer (some ⟨n+1,0,none⟩)=.pointer (some ⟨gz,0,none⟩)∧aH ((w3.alloc (.cells #[u,v] T)).alloc (.cells #[x,y] T)).drew gx T #[u,v]∧aH ((w3.alloc (.cells #[u,v] T)).alloc (.cells #[x,y] T)).drew gz T #[x,y]∧Below n w3 ((w3.alloc (.cells #[u,v] T)).alloc (.cells #[x,y] T)).drew)∧
  (∃ gx gz,n≤gx∧n≤gz∧Value.pointer (some ⟨n+1,0,none⟩)=.pointer (some ⟨gx,0,none⟩)∧Value.pointer (some ⟨n,0,none⟩)=.pointer (some ⟨gz,0,none⟩)∧aH ((w3.alloc (.cells #[u,v] T)).alloc (.cells #[x,y] T)).drew gx T #[x,y]∧aH ((w3.alloc (.cells #[u,v] T)).alloc (.cells #[x,y] T)).drew gz T #[u,v]∧Below n w3 ((w3.alloc (.cells #[u,v] T)).alloc (.cells #[x,y] T)).drew):=by
 subst hn;have h1:aH ((w3.alloc (.cells #[u,v] T)).alloc (.cells #[x,y] T)).drew w3.heap.size T #[u,v]:=(aH.new w3 #[u,v] T).alloc _
 have h2:aH ((w3.alloc (.cells #[u,v] T)).alloc (.cells #[x,y] T)).drew (w3.heap.size+1) T #[x,y]:=by
  have:=aH.new (w3.alloc (.cells #[u,v] T)) #[x,y] T;rw [yK] at this;exact this
 have hb:Below w3.heap.size w3 ((w3.alloc (.cells #[u,v] T)).alloc (.cells #[x,y] T)).drew:=(((yM _ _).alloc (yN _) _).alloc (by rw [yK];omega) _).drew;exact ⟨⟨_,_,yN _,Nat.le_succ _,rfl,rfl,h1,h2,hb⟩,⟨_,_,Nat.le_succ _,yN _,rfl,rfl,h2,h1,hb⟩⟩
theorem gR (a b x z:Int) (vx vz:Value) (w:World) (bx bz:Nat) (hox:ag w bx vx x) (zO:ag w bz vz z) (hx:Wh.sz x 1000) (hz:Wh.sz z 1000) (ha1:-1000≤a) (ha2:a≤1000) (hb1:-10000≤b) (hb2:b≤10000) :
  Calls Tryz.prog 169 #[.agg #[.int .i64 a,.int .i64 b],.agg #[.bool (decide (x<0)),vx,.bool (decide (z<0)),vz]] w fun e w'=>∃ sl,e=.returned (.agg #[.bool (decide (Wh.bR a b x z<0)),sl])∧ag w' w.heap.size sl (Wh.bR a b x z)∧Below w.heap.size w w':=by
 obtain ⟨ax,cx,rfl,-,-⟩:=aF.view hox;obtain ⟨az,cz,rfl,-,-⟩:=aF.view zO;have hq1:Wh.sz (-2*a) 1000:=Wh.aP (Wh.bW (by omega) (by omega)) (by omega);have hq2:Wh.sz (-8*b) 1000:=Wh.aP (Wh.bW (by omega) (by omega)) (by omega);have haa:-1000000≤a*a∧a*a≤1000000:=M.aK (x:=a) (y:=a) (m:=1000) (n:=1000) (by omega) (by omega) (by omega) (by omega);have hq3:Wh.sz (a*a) 1000:=Wh.aP (Wh.bW (by omega) (by omega)) (by omega)
 have mm:∀ (l:List Int),(∀ y ∈ l,Wh.sz y 1000)→l.length≤5→∀ k,Wh.small ((l.take k).foldl (·*·) 1):=fun l h hl k=>Wh.cL (Wh.aP (Wh.iJ h k) (show 1+l.length*1000≤8000 by omega)) (by omega)
 have mp:∀ (l:List Int),(∀ y ∈ l,Wh.sz y 1000)→l.length≤5→Wh.sz (l.foldl (·*·) 1) 6000:=fun l h hl=>by have:=Wh.iJ h l.length;rw [List.take_length] at this;exact Wh.aP this (by omega)
 have m0:∀ (l:List Int),(∀ y ∈ l,Wh.sz y 1000)→∀ y ∈ l,Wh.small y:=fun l h y hy=>Wh.cL (h y hy) (by omega)
 have m1:∀ y ∈ ([x,x,x,x]:List Int),Wh.sz y 1000:=by intro y h;simp only [List.mem_cons,List.not_mem_nil,or_false] at h;rcases h with h | h | h | h <;> (subst h;assumption)
 have R1:=fun g cap W (h:b6 W g [x,x,x,x])=>bc [x,x,x,x] g cap W h (by simp) (m0 _ m1) (mm _ m1 (by simp))
 have p1:=mp _ m1 (by simp)
 have m2:∀ y ∈ ([-2*a,x,x,z,z]:List Int),Wh.sz y 1000:=by intro y h;simp only [List.mem_cons,List.not_mem_nil,or_false] at h;rcases h with h | h | h | h | h <;> (subst h;assumption)
 have R2:=fun g cap W (h:b6 W g [-2*a,x,x,z,z])=>bc [-2*a,x,x,z,z] g cap W h (by simp) (m0 _ m2) (mm _ m2 (by simp))
 have p2:=mp _ m2 (by simp)
 have m3:∀ y ∈ ([-8*b,x,z,z,z]:List Int),Wh.sz y 1000:=by intro y h;simp only [List.mem_cons,List.not_mem_nil,or_false] at h;rcases h with h | h | h | h | h <;> (subst h;assumption)
 have R3:=fun g cap W (h:b6 W g [-8*b,x,z,z,z])=>bc [-8*b,x,z,z,z] g cap W h (by simp) (m0 _ m3) (mm _ m3 (by simp))
 have p3:=mp _ m3 (by simp)
 have m4:∀ y ∈ ([a*a,z,z,z,z]:List Int),Wh.sz y 1000:=by intro y h;simp only [List.mem_cons,List.not_mem_nil,or_false] at h;rcases h with h | h | h | h | h <;> (subst h;assumption)
 have R4:=fun g cap W (h:b6 W g [a*a,z,z,z,z])=>bc [a*a,z,z,z,z] g cap W h (by simp) (m0 _ m4) (mm _ m4 (by simp))
 have p4:=mp _ m4 (by simp);have hT:=Wh.rv a b x z;generalize hp1:([x,x,x,x]:List Int).foldl (·*·) 1=Br at *;generalize hp2:([-2*a,x,x,z,z]:List Int).foldl (·*·) 1=Bu at *;generalize hp3:([-8*b,x,z,z,z]:List Int).foldl (·*·) 1=B0 at *;generalize IK:([a*a,z,z,z,z]:List Int).foldl (·*·) 1=Gl at *
 have ms:∀ y ∈ [Br,Bu,B0,Gl],Wh.sz y 6000:=by intro y h;simp only [List.mem_cons,List.not_mem_nil,or_false] at h;rcases h with h | h | h | h <;> (subst h;assumption)
 have R5:=fun g cap W (h:b6 W g [Br,Bu,B0,Gl])=>i7 [Br,Bu,B0,Gl] g cap W h (by simp) (fun y hy=>Wh.cL (ms y hy) (by omega)) (fun k=>Wh.cL (Wh.aP (Wh.mo ms (by omega) k) (show 6000+4≤7000 by omega)) (by omega))
 rw [hT] at R5
 have N1:=fun W=>bj (-2*a) W (by omega) (by omega)
 have N2:=fun W=>bj (-8*b) W (by omega) (by omega)
 have N3:=fun W=>bj (a*a) W (by omega) (by omega)
 have i1:IntKind.i64.wrap (-2*a)=-2*a:=IntWalk.i64_in _ (by omega);have i2:IntKind.i64.wrap (-8*b)=-8*b:=IntWalk.i64_in _ (by omega);have i3:IntKind.i64.wrap (a*a)=a*a:=IntWalk.i64_in _ (by omega);clear m1 m2 m3 m4 p1 p2 p3 p4 hp1 hp2 hp3 IK ms mm mp m0 hT;replace R1:=yJ R1;replace R2:=yJ R2;replace R3:=yJ R3;replace R4:=yJ R4;replace R5:=yJ R5;replace N1:=yJ N1;replace N2:=yJ N2;replace N3:=yJ N3;replace i1:=yJ i1;replace i2:=yJ i2;replace i3:=yJ i3;generalize hF:Wh.bR a b x z=F at *;clear hF;generalize hs1:decide (x<0)=s1 at *;replace hs1:=yJ hs1.symm;generalize hs2:decide (z<0)=s2 at *;replace hs2:=yJ hs2.symm;replace hox:=yJ (show aF _ _ _ _ from hox);replace zO:=yJ (show aF _ _ _ _ from zO);generalize (Wh.d_ z.natAbs).length=lz,(Wh.d_ x.natAbs).length=lx at *;have b1:=((aH.new w #[.int .i64 a,.int .i64 b] 29).alloc (.cells #[.bool s1,.slice ax lx cx,.bool s2,.slice az lz cz] 157)).alloc (.cells #[.bool false,.slice none 0 0] 136);have b2:=(aH.new (w.alloc (.cells #[.int .i64 a,.int .i64 b] 29)) #[.bool s1,.slice ax lx cx,.bool s2,.slice az lz cz] 157).alloc (.cells #[.bool false,.slice none 0 0] 136);rw [yK] at b2;have b3:=aH.new ((w.alloc (.cells #[.int .i64 a,.int .i64 b] 29)).alloc (.cells #[.bool s1,.slice ax lx cx,.bool s2,.slice az lz cz] 157)) #[.bool false,.slice none 0 0] 136;rw [cU] at b3;have hB:=(((yM w.heap.size w).alloc (yN _) (.cells #[.int .i64 a,.int .i64 b] 29)).alloc (by rw [yK];omega) (.cells #[.bool s1,.slice ax lx cx,.bool s2,.slice az lz cz] 157)).alloc (by rw [cU];omega) (.cells #[.bool false,.slice none 0 0] 136)
 have hz3:(((w.alloc (.cells #[.int .i64 a,.int .i64 b] 29)).alloc (.cells #[.bool s1,.slice ax lx cx,.bool s2,.slice az lz cz] 157)).alloc (.cells #[.bool false,.slice none 0 0] 136)).heap.size=w.heap.size+3:=by rw [yK,cU]
 have BA:=yJ (aF.alloc (aF.alloc (aF.alloc hox.out (.cells #[.int .i64 a,.int .i64 b] 29)) (.cells #[.bool s1,.slice ax lx cx,.bool s2,.slice az lz cz] 157)) (.cells #[.bool false,.slice none 0 0] 136));have BC:=yJ (aF.alloc (aF.alloc (aF.alloc zO.out (.cells #[.int .i64 a,.int .i64 b] 29)) (.cells #[.bool s1,.slice ax lx cx,.bool s2,.slice az lz cz] 157)) (.cells #[.bool false,.slice none 0 0] 136));clear hox zO;generalize hw3:((w.alloc (.cells #[.int .i64 a,.int .i64 b] 29)).alloc (.cells #[.bool s1,.slice ax lx cx,.bool s2,.slice az lz cz] 157)).alloc (.cells #[.bool false,.slice none 0 0] 136)=w3 at *;have e0:=b2.aM.c0;have e1:=b2.aM.c1;have e2:=b2.aM.c2;have e3:=b2.aM.c3;go_enter Tryz.func169,Tryz.ntmps169
 go_wp2
 go_upto_region 1 with fail
 go_cut [5,6] (fun p q wx=>∃ gx gz,w.heap.size+3≤gx∧w.heap.size+3≤gz∧p=.pointer (some ⟨gx,0,none⟩)∧q=.pointer (some ⟨gz,0,none⟩)∧aH wx gx 136 #[.bool s1,.slice ax lx cx]∧aH wx gz 136 #[.bool s2,.slice az lz cz]∧Below (w.heap.size+3) w3 wx)
 case first=>
  go_region
  all_goals
   go_wp2_with fail
   go_meet
   first
   | exact (oj _ _ hz3 _ _ _ _ _).1
   | exact (oj _ _ hz3 _ _ _ _ _).2
 case rest=>
 obtain ⟨gx,gz,hgx,hgz,rfl,rfl,X,Z,hbx⟩:=hcut;rw [←hz3] at hbx;have ox:=yJ (aF.below BA.out hbx);have oz:=yJ (aF.below BC.out hbx);have C:=b1.keep hbx;have R:=b3.keep hbx;have hw:=i_ hB hbx
 have DK:w.heap.size+3≤wc.heap.size:=by have:=hbx.size;omega
 clear hz3;clear b1 b2 b3 e0 e1 e2 e3 hB hbx BA BC
 go_upto_region 2 with fail
 refine Rg.bK 40 [.is (.agg #[.bool s1,.slice ax lx cx]),.is (.agg #[.bool s1,.slice ax lx cx]),.is (.agg #[.bool s1,.slice ax lx cx]),.is (.agg #[.bool s1,.slice ax lx cx]),.at (cE (wc.heap.size) [x,x,x,x]),.at (aJ (wc.heap.size) (Br)),.is (.pointer (some ⟨w.heap.size,0,none⟩)),.is (.int .i64 a),.is (.int .i64 ((-2)*a)),.at (aJ (wc.heap.size) (-2*a)),.is (.agg #[.bool s1,.slice ax lx cx]),.is (.agg #[.bool s1,.slice ax lx cx]),.is (.agg #[.bool s2,.slice az lz cz]),.is (.agg #[.bool s2,.slice az lz cz]),.at (cE (wc.heap.size) [-2*a,x,x,z,z]),.at (aJ (wc.heap.size) (Bu)),.is (.pointer (some ⟨w.heap.size,1,none⟩)),.is (.int .i64 b),.is (.int .i64 ((-8)*b)),.at (aJ (wc.heap.size) (-8*b)),.is (.agg #[.bool s1,.slice ax lx cx]),.is (.agg #[.bool s2,.slice az lz cz]),.is (.agg #[.bool s2,.slice az lz cz]),.is (.agg #[.bool s2,.slice az lz cz]),.at (cE (wc.heap.size) [-8*b,x,z,z,z]),.at (aJ (wc.heap.size) (B0)),.is (.pointer (some ⟨w.heap.size,0,none⟩)),.is (.int .i64 a),.is (.pointer (some ⟨w.heap.size,0,none⟩)),.is (.int .i64 a),.is (.int .i64 (a*a)),.at (aJ (wc.heap.size) (a*a)),.is (.agg #[.bool s2,.slice az lz cz]),.is (.agg #[.bool s2,.slice az lz cz]),.is (.agg #[.bool s2,.slice az lz cz]),.is (.agg #[.bool s2,.slice az lz cz]),.at (cE (wc.heap.size) [a*a,z,z,z,z]),.at (aJ (wc.heap.size) (Gl)),.at (cE (wc.heap.size) [Br,Bu,B0,Gl]),.at (aJ (wc.heap.size) (F))] (by kernel_rfl) (by kernel_rfl) (by kernel_rfl) ⟨?_,?_,?_,?_,?_,?_,?_,?_,?_,?_,?_,?_,?_,?_,?_,?_,?_,?_,?_,?_,?_,?_,?_,?_,?_,?_,?_,?_,?_,?_,?_,?_,?_,?_,?_,?_,?_,?_,?_,?_,fun h_=>absurd h_ (by decide),trivial⟩ ?_
 ·intro _ zZ w_ hB hr
  have e5:zZ.tmps[5]?=some (.pointer (some ⟨gx,0,none⟩)):=hr 5 (by decide);have k0:=aE hB X.box.c0;have k1:=aE hB X.box.c1;exact Rg.aG rfl (by go_simp)
 ·intro _ zZ w_ hB hr
  have e5:zZ.tmps[5]?=some (.pointer (some ⟨gx,0,none⟩)):=hr 5 (by decide);have k0:=aE hB X.box.c0;have k1:=aE hB X.box.c1;exact Rg.aG rfl (by go_simp)
 ·intro _ zZ w_ hB hr
  have e5:zZ.tmps[5]?=some (.pointer (some ⟨gx,0,none⟩)):=hr 5 (by decide);have k0:=aE hB X.box.c0;have k1:=aE hB X.box.c1;exact Rg.aG rfl (by go_simp)
 ·intro _ zZ w_ hB hr
  have e5:zZ.tmps[5]?=some (.pointer (some ⟨gx,0,none⟩)):=hr 5 (by decide);have k0:=aE hB X.box.c0;have k1:=aE hB X.box.c1;exact Rg.aG rfl (by go_simp)
 ·intro _ zZ w_ hB hr
  have e11:=Rg.a_ (hr 11 (by decide));have e12:=Rg.a_ (hr 12 (by decide));have e13:=Rg.a_ (hr 13 (by decide));have e14:=Rg.a_ (hr 14 (by decide));refine Rg.kr rfl (x:=.slice (some ⟨w_.heap.size,0,none⟩) 4 4) (ob:=.cells (List.toArray [.bool s1,.slice ax lx cx,.bool s1,.slice ax lx cx,.bool s1,.slice ax lx cx,.bool s1,.slice ax lx cx]) 136) (by first | (go_simp;done) | (go_simp;exact ⟨rfl,rfl⟩) | (go_simp;rfl)) (cE.at (by have:=hB.size;omega) ?_ rfl);exact bg.cons hs1.out (aF.below ox.out hB) (bg.cons hs1.out (aF.below ox.out hB) (bg.cons hs1.out (aF.below ox.out hB) (bg.cons hs1.out (aF.below ox.out hB) (bg.nil))))
 ·intro _ zZ w_ hB hr
  obtain ⟨v15,e15,n15⟩:∃ v,zZ.tmps[15]?=some v∧(Rg.Val.at (cE (wc.heap.size) [x,x,x,x])).ok v w_:=hr 15 (by decide);obtain ⟨g15,rfl,FV⟩:=Rg.af n15;have ef:=Rg.ef zZ;refine Rg.aY rfl (by go_simp;exact ⟨rfl,rfl⟩) ?_;refine (R1.out _ _ _ FV).mono ?_;rintro e w5 ⟨zD,rfl,yV,hb5⟩;exact ⟨_,rfl,aJ.at yV (by have:=hB.size;omega),hb5⟩
 ·intro _ zZ w_ hB hr
  have e2:zZ.tmps[2]?=some (.pointer (some ⟨w.heap.size,0,none⟩)):=hr 2 (by decide);exact Rg.aG rfl (by go_simp)
 ·intro _ zZ w_ hB hr
  have e17:=Rg.a_ (hr 17 (by decide));have k0:=aE hB C.box.c0;exact Rg.aG rfl (by go_simp)
 ·intro _ zZ w_ hB hr
  have e18:=Rg.a_ (hr 18 (by decide));have ec:=Rg.ec zZ;exact Rg.aG rfl (by go_simp <;> exact Rg.wo (by omega))
 ·intro _ zZ w_ hB hr
  have e19:=Rg.a_ (hr 19 (by decide));have ef:=Rg.ef zZ;refine Rg.aY rfl (by go_simp;exact ⟨rfl,rfl⟩) ?_;refine (N1.out _).mono ?_;rintro e w5 ⟨zD,rfl,yV,hb5⟩;exact ⟨_,rfl,aJ.at yV (by have:=hB.size;omega),hb5⟩
 ·intro _ zZ w_ hB hr
  have e5:zZ.tmps[5]?=some (.pointer (some ⟨gx,0,none⟩)):=hr 5 (by decide);have k0:=aE hB X.box.c0;have k1:=aE hB X.box.c1;exact Rg.aG rfl (by go_simp)
 ·intro _ zZ w_ hB hr
  have e5:zZ.tmps[5]?=some (.pointer (some ⟨gx,0,none⟩)):=hr 5 (by decide);have k0:=aE hB X.box.c0;have k1:=aE hB X.box.c1;exact Rg.aG rfl (by go_simp)
 ·intro _ zZ w_ hB hr
  have e6:zZ.tmps[6]?=some (.pointer (some ⟨gz,0,none⟩)):=hr 6 (by decide);have k0:=aE hB Z.box.c0;have k1:=aE hB Z.box.c1;exact Rg.aG rfl (by go_simp)
 ·intro _ zZ w_ hB hr
  have e6:zZ.tmps[6]?=some (.pointer (some ⟨gz,0,none⟩)):=hr 6 (by decide);have k0:=aE hB Z.box.c0;have k1:=aE hB Z.box.c1;exact Rg.aG rfl (by go_simp)
 ·intro _ zZ w_ hB hr
  obtain ⟨v20,e20,n20⟩:∃ v,zZ.tmps[20]?=some v∧(Rg.Val.at (aJ (wc.heap.size) (-2*a))).ok v w_:=hr 20 (by decide);obtain ⟨s20,a20,l20,c20,Mu,rfl,o20⟩:=(Rg.af n20).view;have e21:=Rg.a_ (hr 21 (by decide));have e22:=Rg.a_ (hr 22 (by decide));have e23:=Rg.a_ (hr 23 (by decide));have e24:=Rg.a_ (hr 24 (by decide));refine Rg.kr rfl (x:=.slice (some ⟨w_.heap.size,0,none⟩) 5 5) (ob:=.cells (List.toArray [.bool s20,.slice a20 l20 c20,.bool s1,.slice ax lx cx,.bool s1,.slice ax lx cx,.bool s2,.slice az lz cz,.bool s2,.slice az lz cz]) 136) (by first | (go_simp;done) | (go_simp;exact ⟨rfl,rfl⟩) | (go_simp;rfl)) (cE.at (by have:=hB.size;omega) ?_ rfl);exact bg.cons Mu.out o20 (bg.cons hs1.out (aF.below ox.out hB) (bg.cons hs1.out (aF.below ox.out hB) (bg.cons hs2.out (aF.below oz.out hB) (bg.cons hs2.out (aF.below oz.out hB) (bg.nil)))))
 ·intro _ zZ w_ hB hr
  obtain ⟨v25,e25,n25⟩:∃ v,zZ.tmps[25]?=some v∧(Rg.Val.at (cE (wc.heap.size) [-2*a,x,x,z,z])).ok v w_:=hr 25 (by decide);obtain ⟨g25,rfl,Jg⟩:=Rg.af n25;have ef:=Rg.ef zZ;refine Rg.aY rfl (by go_simp;exact ⟨rfl,rfl⟩) ?_;refine (R2.out _ _ _ Jg).mono ?_;rintro e w5 ⟨zD,rfl,yV,hb5⟩;exact ⟨_,rfl,aJ.at yV (by have:=hB.size;omega),hb5⟩
 ·intro _ zZ w_ hB hr
  have e2:zZ.tmps[2]?=some (.pointer (some ⟨w.heap.size,0,none⟩)):=hr 2 (by decide);exact Rg.aG rfl (by go_simp)
 ·intro _ zZ w_ hB hr
  have e27:=Rg.a_ (hr 27 (by decide));have k1:=aE hB C.box.c1;exact Rg.aG rfl (by go_simp)
 ·intro _ zZ w_ hB hr
  have e28:=Rg.a_ (hr 28 (by decide));have ec:=Rg.ec zZ;exact Rg.aG rfl (by go_simp <;> exact Rg.wo (by omega))
 ·intro _ zZ w_ hB hr
  have e29:=Rg.a_ (hr 29 (by decide));have ef:=Rg.ef zZ;refine Rg.aY rfl (by go_simp;exact ⟨rfl,rfl⟩) ?_;refine (N2.out _).mono ?_;rintro e w5 ⟨zD,rfl,yV,hb5⟩;exact ⟨_,rfl,aJ.at yV (by have:=hB.size;omega),hb5⟩
 ·intro _ zZ w_ hB hr
  have e5:zZ.tmps[5]?=some (.pointer (some ⟨gx,0,none⟩)):=hr 5 (by decide);have k0:=aE hB X.box.c0;have k1:=aE hB X.box.c1;exact Rg.aG rfl (by go_simp)
 ·intro _ zZ w_ hB hr
  have e6:zZ.tmps[6]?=some (.pointer (some ⟨gz,0,none⟩)):=hr 6 (by decide);have k0:=aE hB Z.box.c0;have k1:=aE hB Z.box.c1;exact Rg.aG rfl (by go_simp)
 ·intro _ zZ w_ hB hr
  have e6:zZ.tmps[6]?=some (.pointer (some ⟨gz,0,none⟩)):=hr 6 (by decide);have k0:=aE hB Z.box.c0;have k1:=aE hB Z.box.c1;exact Rg.aG rfl (by go_simp)
 ·intro _ zZ w_ hB hr
  have e6:zZ.tmps[6]?=some (.pointer (some ⟨gz,0,none⟩)):=hr 6 (by decide);have k0:=aE hB Z.box.c0;have k1:=aE hB Z.box.c1;exact Rg.aG rfl (by go_simp)
 ·intro _ zZ w_ hB hr
  obtain ⟨v30,e30,n30⟩:∃ v,zZ.tmps[30]?=some v∧(Rg.Val.at (aJ (wc.heap.size) (-8*b))).ok v w_:=hr 30 (by decide);obtain ⟨s30,a30,l30,c30,Mz,rfl,o30⟩:=(Rg.af n30).view;have e31:=Rg.a_ (hr 31 (by decide));have e32:=Rg.a_ (hr 32 (by decide));have e33:=Rg.a_ (hr 33 (by decide));have e34:=Rg.a_ (hr 34 (by decide));refine Rg.kr rfl (x:=.slice (some ⟨w_.heap.size,0,none⟩) 5 5) (ob:=.cells (List.toArray [.bool s30,.slice a30 l30 c30,.bool s1,.slice ax lx cx,.bool s2,.slice az lz cz,.bool s2,.slice az lz cz,.bool s2,.slice az lz cz]) 136) (by first | (go_simp;done) | (go_simp;exact ⟨rfl,rfl⟩) | (go_simp;rfl)) (cE.at (by have:=hB.size;omega) ?_ rfl);exact bg.cons Mz.out o30 (bg.cons hs1.out (aF.below ox.out hB) (bg.cons hs2.out (aF.below oz.out hB) (bg.cons hs2.out (aF.below oz.out hB) (bg.cons hs2.out (aF.below oz.out hB) (bg.nil)))))
 ·intro _ zZ w_ hB hr
  obtain ⟨v35,e35,n35⟩:∃ v,zZ.tmps[35]?=some v∧(Rg.Val.at (cE (wc.heap.size) [-8*b,x,z,z,z])).ok v w_:=hr 35 (by decide);obtain ⟨g35,rfl,Nf⟩:=Rg.af n35;have ef:=Rg.ef zZ;refine Rg.aY rfl (by go_simp;exact ⟨rfl,rfl⟩) ?_;refine (R3.out _ _ _ Nf).mono ?_;rintro e w5 ⟨zD,rfl,yV,hb5⟩;exact ⟨_,rfl,aJ.at yV (by have:=hB.size;omega),hb5⟩
 ·intro _ zZ w_ hB hr
  have e2:zZ.tmps[2]?=some (.pointer (some ⟨w.heap.size,0,none⟩)):=hr 2 (by decide);exact Rg.aG rfl (by go_simp)
 ·intro _ zZ w_ hB hr
  have e37:=Rg.a_ (hr 37 (by decide));have k0:=aE hB C.box.c0;exact Rg.aG rfl (by go_simp)
 ·intro _ zZ w_ hB hr
  have e2:zZ.tmps[2]?=some (.pointer (some ⟨w.heap.size,0,none⟩)):=hr 2 (by decide);exact Rg.aG rfl (by go_simp)
 ·intro _ zZ w_ hB hr
  have e39:=Rg.a_ (hr 39 (by decide));have k0:=aE hB C.box.c0;exact Rg.aG rfl (by go_simp)
 ·intro _ zZ w_ hB hr
  have e38:=Rg.a_ (hr 38 (by decide));have e40:=Rg.a_ (hr 40 (by decide));exact Rg.aG rfl (by go_simp <;> exact Rg.wo (by omega))
 ·intro _ zZ w_ hB hr
  have e41:=Rg.a_ (hr 41 (by decide));have ef:=Rg.ef zZ;refine Rg.aY rfl (by go_simp;exact ⟨rfl,rfl⟩) ?_;refine (N3.out _).mono ?_;rintro e w5 ⟨zD,rfl,yV,hb5⟩;exact ⟨_,rfl,aJ.at yV (by have:=hB.size;omega),hb5⟩
 ·intro _ zZ w_ hB hr
  have e6:zZ.tmps[6]?=some (.pointer (some ⟨gz,0,none⟩)):=hr 6 (by decide);have k0:=aE hB Z.box.c0;have k1:=aE hB Z.box.c1;exact Rg.aG rfl (by go_simp)
 ·intro _ zZ w_ hB hr
  have e6:zZ.tmps[6]?=some (.pointer (some ⟨gz,0,none⟩)):=hr 6 (by decide);have k0:=aE hB Z.box.c0;have k1:=aE hB Z.box.c1;exact Rg.aG rfl (by go_simp)
 ·intro _ zZ w_ hB hr
  have e6:zZ.tmps[6]?=some (.pointer (some ⟨gz,0,none⟩)):=hr 6 (by decide);have k0:=aE hB Z.box.c0;have k1:=aE hB Z.box.c1;exact Rg.aG rfl (by go_simp)
 ·intro _ zZ w_ hB hr
  have e6:zZ.tmps[6]?=some (.pointer (some ⟨gz,0,none⟩)):=hr 6 (by decide);have k0:=aE hB Z.box.c0;have k1:=aE hB Z.box.c1;exact Rg.aG rfl (by go_simp)
 ·intro _ zZ w_ hB hr
  obtain ⟨v42,e42,n42⟩:∃ v,zZ.tmps[42]?=some v∧(Rg.Val.at (aJ (wc.heap.size) (a*a))).ok v w_:=hr 42 (by decide);obtain ⟨s42,a42,l42,c42,M9,rfl,o42⟩:=(Rg.af n42).view;have e43:=Rg.a_ (hr 43 (by decide));have e44:=Rg.a_ (hr 44 (by decide));have e45:=Rg.a_ (hr 45 (by decide));have e46:=Rg.a_ (hr 46 (by decide));refine Rg.kr rfl (x:=.slice (some ⟨w_.heap.size,0,none⟩) 5 5) (ob:=.cells (List.toArray [.bool s42,.slice a42 l42 c42,.bool s2,.slice az lz cz,.bool s2,.slice az lz cz,.bool s2,.slice az lz cz,.bool s2,.slice az lz cz]) 136) (by first | (go_simp;done) | (go_simp;exact ⟨rfl,rfl⟩) | (go_simp;rfl)) (cE.at (by have:=hB.size;omega) ?_ rfl);exact bg.cons M9.out o42 (bg.cons hs2.out (aF.below oz.out hB) (bg.cons hs2.out (aF.below oz.out hB) (bg.cons hs2.out (aF.below oz.out hB) (bg.cons hs2.out (aF.below oz.out hB) (bg.nil)))))
 ·intro _ zZ w_ hB hr
  obtain ⟨v47,e47,n47⟩:∃ v,zZ.tmps[47]?=some v∧(Rg.Val.at (cE (wc.heap.size) [a*a,z,z,z,z])).ok v w_:=hr 47 (by decide);obtain ⟨g47,rfl,Nh⟩:=Rg.af n47;have ef:=Rg.ef zZ;refine Rg.aY rfl (by go_simp;exact ⟨rfl,rfl⟩) ?_;refine (R4.out _ _ _ Nh).mono ?_;rintro e w5 ⟨zD,rfl,yV,hb5⟩;exact ⟨_,rfl,aJ.at yV (by have:=hB.size;omega),hb5⟩
 ·intro _ zZ w_ hB hr
  obtain ⟨v16,e16,n16⟩:∃ v,zZ.tmps[16]?=some v∧(Rg.Val.at (aJ (wc.heap.size) (Br))).ok v w_:=hr 16 (by decide);obtain ⟨s16,a16,Cv,c16,BP,rfl,o16⟩:=(Rg.af n16).view;obtain ⟨v26,e26,n26⟩:∃ v,zZ.tmps[26]?=some v∧(Rg.Val.at (aJ (wc.heap.size) (Bu))).ok v w_:=hr 26 (by decide);obtain ⟨s26,a26,l26,c26,GV,rfl,Nc⟩:=(Rg.af n26).view;obtain ⟨v36,e36,n36⟩:∃ v,zZ.tmps[36]?=some v∧(Rg.Val.at (aJ (wc.heap.size) (B0))).ok v w_:=hr 36 (by decide);obtain ⟨s36,a36,l36,c36,M5,rfl,o36⟩:=(Rg.af n36).view;obtain ⟨v48,e48,n48⟩:∃ v,zZ.tmps[48]?=some v∧(Rg.Val.at (aJ (wc.heap.size) (Gl))).ok v w_:=hr 48 (by decide);obtain ⟨I2,a48,Il,Hu,GY,rfl,Ni⟩:=(Rg.af n48).view;refine Rg.kr rfl (x:=.slice (some ⟨w_.heap.size,0,none⟩) 4 4) (ob:=.cells (List.toArray [.bool s16,.slice a16 Cv c16,.bool s26,.slice a26 l26 c26,.bool s36,.slice a36 l36 c36,.bool I2,.slice a48 Il Hu]) 136) (by first | (go_simp;done) | (go_simp;exact ⟨rfl,rfl⟩) | (go_simp;rfl)) (cE.at (by have:=hB.size;omega) ?_ rfl);exact bg.cons BP.out o16 (bg.cons GV.out Nc (bg.cons M5.out o36 (bg.cons GY.out Ni (bg.nil))))
 ·intro _ zZ w_ hB hr
  obtain ⟨v49,e49,n49⟩:∃ v,zZ.tmps[49]?=some v∧(Rg.Val.at (cE (wc.heap.size) [Br,Bu,B0,Gl])).ok v w_:=hr 49 (by decide);obtain ⟨g49,rfl,o49⟩:=Rg.af n49;have ef:=Rg.ef zZ;refine Rg.aY rfl (by go_simp;exact ⟨rfl,rfl⟩) ?_;refine (R5.out _ _ _ o49).mono ?_;rintro e w5 ⟨zD,rfl,yV,hb5⟩;exact ⟨_,rfl,aJ.at yV (by have:=hB.size;omega),hb5⟩
 intro vals wz hB hv hne;have n50:(Rg.Val.at (aJ (wc.heap.size) (F))).ok (vals 39) wz:=hv 39 (by decide);simp only [Rg.ak,Rg.fill,Act.put,Nat.reduceAdd];clear hv;obtain ⟨Nl,a50,NT,L1,NB,JE,o50⟩:=(Rg.af n50).view;simp only [JE];clear JE;have R2:=R.keep hB;have ⟨c0,c1,f0,f1,_⟩:=R2.box;have hr1:=aF.base (aF.bF o50 R2 (by decide) (.bool Nl) (.slice a50 NT L1)) (Nat.le_trans (Nat.le_add_right _ 3) DK);have hr2:Below w.heap.size w ((wz.setCell ⟨w.heap.size+1+1,0,none⟩ (.bool Nl)).setCell ⟨w.heap.size+1+1,1,none⟩ (.slice a50 NT L1)):=yL (yL (i_ hw hB) (by simp <;> omega) _) (by simp <;> omega) _;unfold Rg.aW Rg.aW Oper.wp
 go_simp
 go_wp2;exact bodyPost_ret (v:=.agg #[.bool Nl,.slice a50 NT L1]) (by simp [results,Tryz.results169,go_sem, *]) rfl (⟨_,by rw [NB.out],hr1,hr2⟩)
theorem du (a b x z:Int) (vx vz:Value) (w:World) (bx bz:Nat) (hox:ag w bx vx x) (zO:ag w bz vz z) (hx:Wh.sz x 1000) (hz:Wh.sz z 1000) (ha1:-1000≤a) (ha2:a≤1000) (hb1:-10000≤b) (hb2:b≤10000) :
  Calls Tryz.prog 148 #[.agg #[.int .i64 a,.int .i64 b],.agg #[.bool (decide (x<0)),vx,.bool (decide (z<0)),vz]] w fun e w'=>∃ sl,e=.returned (.agg #[.bool (decide (Wh.bJ a b x z<0)),sl])∧ag w' w.heap.size sl (Wh.bJ a b x z)∧Below w.heap.size w w':=by
 obtain ⟨ax,cx,rfl,-,-⟩:=aF.view hox;obtain ⟨az,cz,rfl,-,-⟩:=aF.view zO;have hq1:Wh.sz a 1000:=Wh.aP (Wh.bW (by omega) (by omega)) (by omega);have hq2:Wh.sz b 1000:=Wh.aP (Wh.bW (by omega) (by omega)) (by omega);have hq3:Wh.sz 4 1000:=Wh.aP (Wh.bW (by omega) (by omega)) (by omega)
 have mm:∀ (l:List Int),(∀ y ∈ l,Wh.sz y 1000)→l.length≤5→∀ k,Wh.small ((l.take k).foldl (·*·) 1):=fun l h hl k=>Wh.cL (Wh.aP (Wh.iJ h k) (show 1+l.length*1000≤8000 by omega)) (by omega)
 have mp:∀ (l:List Int),(∀ y ∈ l,Wh.sz y 1000)→l.length≤4→Wh.sz (l.foldl (·*·) 1) 4001:=fun l h hl=>by have:=Wh.iJ h l.length;rw [List.take_length] at this;exact Wh.aP this (by omega)
 have m0:∀ (l:List Int),(∀ y ∈ l,Wh.sz y 1000)→∀ y ∈ l,Wh.small y:=fun l h y hy=>Wh.cL (h y hy) (by omega)
 have m1:∀ y ∈ ([x,x,x]:List Int),Wh.sz y 1000:=by intro y h;simp only [List.mem_cons,List.not_mem_nil,or_false] at h;rcases h with h | h | h <;> (subst h;assumption)
 have R1:=fun g cap W (h:b6 W g [x,x,x])=>bc [x,x,x] g cap W h (by simp) (m0 _ m1) (mm _ m1 (by simp))
 have p1:=mp _ m1 (by simp)
 have m2:∀ y ∈ ([a,x,z,z]:List Int),Wh.sz y 1000:=by intro y h;simp only [List.mem_cons,List.not_mem_nil,or_false] at h;rcases h with h | h | h | h <;> (subst h;assumption)
 have R2:=fun g cap W (h:b6 W g [a,x,z,z])=>bc [a,x,z,z] g cap W h (by simp) (m0 _ m2) (mm _ m2 (by simp))
 have p2:=mp _ m2 (by simp)
 have m3:∀ y ∈ ([b,z,z,z]:List Int),Wh.sz y 1000:=by intro y h;simp only [List.mem_cons,List.not_mem_nil,or_false] at h;rcases h with h | h | h | h <;> (subst h;assumption)
 have R3:=fun g cap W (h:b6 W g [b,z,z,z])=>bc [b,z,z,z] g cap W h (by simp) (m0 _ m3) (mm _ m3 (by simp))
 have p3:=mp _ m3 (by simp);have hT:=Wh.qw a b x z;generalize hp1:([x,x,x]:List Int).foldl (·*·) 1=Br at *;generalize hp2:([a,x,z,z]:List Int).foldl (·*·) 1=Bu at *;generalize hp3:([b,z,z,z]:List Int).foldl (·*·) 1=B0 at *
 have ms:∀ y ∈ [Br,Bu,B0],Wh.sz y 4001:=by intro y h;simp only [List.mem_cons,List.not_mem_nil,or_false] at h;rcases h with h | h | h <;> (subst h;assumption)
 have R5:=fun g cap W (h:b6 W g [Br,Bu,B0])=>i7 [Br,Bu,B0] g cap W h (by simp) (fun y hy=>Wh.cL (ms y hy) (by omega)) (fun k=>Wh.cL (Wh.aP (Wh.mo ms (by omega) k) (show 4001+3≤7000 by omega)) (by omega))
 have Mp:=Wh.mo ms (by omega) 3;rw [show ([Br,Bu,B0]:List Int).take 3=[Br,Bu,B0] from rfl] at Mp;generalize CN:([Br,Bu,B0]:List Int).foldl (·+·) 0=Gm at *;have Mq:Wh.sz Gm 4004:=Mp
 have R6:=fun g cap W (h:b6 W g [4,z,Gm])=>bc [4,z,Gm] g cap W h (by simp) (by
  intro y h;simp only [List.mem_cons,List.not_mem_nil,or_false] at h;rcases h with h | h | h
  ·subst h;exact Wh.cL hq3 (by omega)
  ·subst h;exact Wh.cL hz (by omega)
  ·subst h;exact Wh.cL Mq (by omega)) (fun k=>by
  have y0:=Wh.uZ;have y1:=Wh.am y0 hq3;have y2:=Wh.am y1 hz;have y3:=Wh.am y2 Mq
  match k with
  | 0=>exact Wh.cL y0 (by omega)
  | 1=>exact Wh.cL y1 (by omega)
  | 2=>exact Wh.cL y2 (by omega)
  | k+3=>rw [List.take_of_length_le (by simp)];exact Wh.cL y3 (by omega))
 rw [hT] at R6
 have N1:=fun W=>bj a W (by omega) (by omega)
 have N2:=fun W=>bj b W (by omega) (by omega)
 have N3:=fun W=>bj 4 W (by omega) (by omega)
 clear m1 m2 m3 p1 p2 p3 hp1 hp2 hp3 ms mm mp m0 hT CN Mp Mq;replace R1:=yJ R1;replace R2:=yJ R2;replace R3:=yJ R3;replace R5:=yJ R5;replace R6:=yJ R6;replace N1:=yJ N1;replace N2:=yJ N2;replace N3:=yJ N3;generalize hF:Wh.bJ a b x z=F at *;clear hF;generalize hs1:decide (x<0)=s1 at *;replace hs1:=yJ hs1.symm;generalize hs2:decide (z<0)=s2 at *;replace hs2:=yJ hs2.symm;replace hox:=yJ (show aF _ _ _ _ from hox);replace zO:=yJ (show aF _ _ _ _ from zO);generalize (Wh.d_ z.natAbs).length=lz,(Wh.d_ x.natAbs).length=lx at *;have b1:=((aH.new w #[.int .i64 a,.int .i64 b] 29).alloc (.cells #[.bool s1,.slice ax lx cx,.bool s2,.slice az lz cz] 157)).alloc (.cells #[.bool false,.slice none 0 0] 136);have b2:=(aH.new (w.alloc (.cells #[.int .i64 a,.int .i64 b] 29)) #[.bool s1,.slice ax lx cx,.bool s2,.slice az lz cz] 157).alloc (.cells #[.bool false,.slice none 0 0] 136);rw [yK] at b2;have b3:=aH.new ((w.alloc (.cells #[.int .i64 a,.int .i64 b] 29)).alloc (.cells #[.bool s1,.slice ax lx cx,.bool s2,.slice az lz cz] 157)) #[.bool false,.slice none 0 0] 136;rw [cU] at b3;have hB:=(((yM w.heap.size w).alloc (yN _) (.cells #[.int .i64 a,.int .i64 b] 29)).alloc (by rw [yK];omega) (.cells #[.bool s1,.slice ax lx cx,.bool s2,.slice az lz cz] 157)).alloc (by rw [cU];omega) (.cells #[.bool false,.slice none 0 0] 136)
 have hz3:(((w.alloc (.cells #[.int .i64 a,.int .i64 b] 29)).alloc (.cells #[.bool s1,.slice ax lx cx,.bool s2,.slice az lz cz] 157)).alloc (.cells #[.bool false,.slice none 0 0] 136)).heap.size=w.heap.size+3:=by rw [yK,cU]
 have BA:=yJ (aF.alloc (aF.alloc (aF.alloc hox.out (.cells #[.int .i64 a,.int .i64 b] 29)) (.cells #[.bool s1,.slice ax lx cx,.bool s2,.slice az lz cz] 157)) (.cells #[.bool false,.slice none 0 0] 136));have BC:=yJ (aF.alloc (aF.alloc (aF.alloc zO.out (.cells #[.int .i64 a,.int .i64 b] 29)) (.cells #[.bool s1,.slice ax lx cx,.bool s2,.slice az lz cz] 157)) (.cells #[.bool false,.slice none 0 0] 136));clear hox zO;generalize hw3:((w.alloc (.cells #[.int .i64 a,.int .i64 b] 29)).alloc (.cells #[.bool s1,.slice ax lx cx,.bool s2,.slice az lz cz] 157)).alloc (.cells #[.bool false,.slice none 0 0] 136)=w3 at *;have e0:=b2.aM.c0;have e1:=b2.aM.c1;have e2:=b2.aM.c2;have e3:=b2.aM.c3;go_enter Tryz.func148,Tryz.ntmps148
 go_wp2
 go_upto_region 1 with fail
 go_cut [5,6] (fun p q wx=>∃ gx gz,w.heap.size+3≤gx∧w.heap.size+3≤gz∧p=.pointer (some ⟨gx,0,none⟩)∧q=.pointer (some ⟨gz,0,none⟩)∧aH wx gx 136 #[.bool s1,.slice ax lx cx]∧aH wx gz 136 #[.bool s2,.slice az lz cz]∧Below (w.heap.size+3) w3 wx)
 case first=>
  go_region
  all_goals
   go_wp2_with fail
   go_meet
   first
   | exact (oj _ _ hz3 _ _ _ _ _).1
   | exact (oj _ _ hz3 _ _ _ _ _).2
 case rest=>
 obtain ⟨gx,gz,hgx,hgz,rfl,rfl,X,Z,hbx⟩:=hcut;rw [←hz3] at hbx;have ox:=yJ (aF.below BA.out hbx);have oz:=yJ (aF.below BC.out hbx);have C:=b1.keep hbx;have R:=b3.keep hbx;have hw:=i_ hB hbx
 have DK:w.heap.size+3≤wc.heap.size:=by have:=hbx.size;omega
 clear hz3;clear b1 b2 b3 e0 e1 e2 e3 hB hbx BA BC
 go_upto_region 2 with fail
 refine Rg.bK 24 [.is (.agg #[.bool s1,.slice ax lx cx]),.is (.agg #[.bool s1,.slice ax lx cx]),.is (.agg #[.bool s1,.slice ax lx cx]),.at (cE (wc.heap.size) [x,x,x]),.at (aJ (wc.heap.size) (Br)),.is (.pointer (some ⟨w.heap.size,0,none⟩)),.is (.int .i64 a),.at (aJ (wc.heap.size) (a)),.is (.agg #[.bool s1,.slice ax lx cx]),.is (.agg #[.bool s2,.slice az lz cz]),.is (.agg #[.bool s2,.slice az lz cz]),.at (cE (wc.heap.size) [a,x,z,z]),.at (aJ (wc.heap.size) (Bu)),.is (.pointer (some ⟨w.heap.size,1,none⟩)),.is (.int .i64 b),.at (aJ (wc.heap.size) (b)),.is (.agg #[.bool s2,.slice az lz cz]),.is (.agg #[.bool s2,.slice az lz cz]),.is (.agg #[.bool s2,.slice az lz cz]),.at (cE (wc.heap.size) [b,z,z,z]),.at (aJ (wc.heap.size) (B0)),.at (cE (wc.heap.size) [Br,Bu,B0]),.at (aJ (wc.heap.size) (Gm)),.new (wc.heap.size) 136 #[.bool false,.slice none 0 0]] (by kernel_rfl) (by kernel_rfl) (by kernel_rfl) ⟨?_,?_,?_,?_,?_,?_,?_,?_,?_,?_,?_,?_,?_,?_,?_,?_,?_,?_,?_,?_,?_,?_,?_,?_,fun h_=>absurd h_ (by decide),trivial⟩ ?_
 ·intro _ zZ w_ hB hr
  have e5:zZ.tmps[5]?=some (.pointer (some ⟨gx,0,none⟩)):=hr 5 (by decide);have k0:=aE hB X.box.c0;have k1:=aE hB X.box.c1;exact Rg.aG rfl (by go_simp)
 ·intro _ zZ w_ hB hr
  have e5:zZ.tmps[5]?=some (.pointer (some ⟨gx,0,none⟩)):=hr 5 (by decide);have k0:=aE hB X.box.c0;have k1:=aE hB X.box.c1;exact Rg.aG rfl (by go_simp)
 ·intro _ zZ w_ hB hr
  have e5:zZ.tmps[5]?=some (.pointer (some ⟨gx,0,none⟩)):=hr 5 (by decide);have k0:=aE hB X.box.c0;have k1:=aE hB X.box.c1;exact Rg.aG rfl (by go_simp)
 ·intro _ zZ w_ hB hr
  have e12:=Rg.a_ (hr 12 (by decide));have e13:=Rg.a_ (hr 13 (by decide));have e14:=Rg.a_ (hr 14 (by decide));refine Rg.kr rfl (x:=.slice (some ⟨w_.heap.size,0,none⟩) 3 3) (ob:=.cells (List.toArray [.bool s1,.slice ax lx cx,.bool s1,.slice ax lx cx,.bool s1,.slice ax lx cx]) 136) (by first | (go_simp;done) | (go_simp;exact ⟨rfl,rfl⟩) | (go_simp;rfl)) (cE.at (by have:=hB.size;omega) ?_ rfl);exact bg.cons hs1.out (aF.below ox.out hB) (bg.cons hs1.out (aF.below ox.out hB) (bg.cons hs1.out (aF.below ox.out hB) (bg.nil)))
 ·intro _ zZ w_ hB hr
  obtain ⟨v15,e15,n15⟩:∃ v,zZ.tmps[15]?=some v∧(Rg.Val.at (cE (wc.heap.size) [x,x,x])).ok v w_:=hr 15 (by decide);obtain ⟨g15,rfl,FV⟩:=Rg.af n15;have ef:=Rg.ef zZ;refine Rg.aY rfl (by go_simp;exact ⟨rfl,rfl⟩) ?_;refine (R1.out _ _ _ FV).mono ?_;rintro e w5 ⟨zD,rfl,yV,hb5⟩;exact ⟨_,rfl,aJ.at yV (by have:=hB.size;omega),hb5⟩
 ·intro _ zZ w_ hB hr
  have e2:zZ.tmps[2]?=some (.pointer (some ⟨w.heap.size,0,none⟩)):=hr 2 (by decide);exact Rg.aG rfl (by go_simp)
 ·intro _ zZ w_ hB hr
  have e17:=Rg.a_ (hr 17 (by decide));have k0:=aE hB C.box.c0;exact Rg.aG rfl (by go_simp)
 ·intro _ zZ w_ hB hr
  have e18:=Rg.a_ (hr 18 (by decide));have ef:=Rg.ef zZ;refine Rg.aY rfl (by go_simp;exact ⟨rfl,rfl⟩) ?_;refine (N1.out _).mono ?_;rintro e w5 ⟨zD,rfl,yV,hb5⟩;exact ⟨_,rfl,aJ.at yV (by have:=hB.size;omega),hb5⟩
 ·intro _ zZ w_ hB hr
  have e5:zZ.tmps[5]?=some (.pointer (some ⟨gx,0,none⟩)):=hr 5 (by decide);have k0:=aE hB X.box.c0;have k1:=aE hB X.box.c1;exact Rg.aG rfl (by go_simp)
 ·intro _ zZ w_ hB hr
  have e6:zZ.tmps[6]?=some (.pointer (some ⟨gz,0,none⟩)):=hr 6 (by decide);have k0:=aE hB Z.box.c0;have k1:=aE hB Z.box.c1;exact Rg.aG rfl (by go_simp)
 ·intro _ zZ w_ hB hr
  have e6:zZ.tmps[6]?=some (.pointer (some ⟨gz,0,none⟩)):=hr 6 (by decide);have k0:=aE hB Z.box.c0;have k1:=aE hB Z.box.c1;exact Rg.aG rfl (by go_simp)
 ·intro _ zZ w_ hB hr
  obtain ⟨v19,e19,n19⟩:∃ v,zZ.tmps[19]?=some v∧(Rg.Val.at (aJ (wc.heap.size) (a))).ok v w_:=hr 19 (by decide);obtain ⟨DM,De,DA,c19,BQ,rfl,HF⟩:=(Rg.af n19).view;have e20:=Rg.a_ (hr 20 (by decide));have e21:=Rg.a_ (hr 21 (by decide));have e22:=Rg.a_ (hr 22 (by decide));refine Rg.kr rfl (x:=.slice (some ⟨w_.heap.size,0,none⟩) 4 4) (ob:=.cells (List.toArray [.bool DM,.slice De DA c19,.bool s1,.slice ax lx cx,.bool s2,.slice az lz cz,.bool s2,.slice az lz cz]) 136) (by first | (go_simp;done) | (go_simp;exact ⟨rfl,rfl⟩) | (go_simp;rfl)) (cE.at (by have:=hB.size;omega) ?_ rfl);exact bg.cons BQ.out HF (bg.cons hs1.out (aF.below ox.out hB) (bg.cons hs2.out (aF.below oz.out hB) (bg.cons hs2.out (aF.below oz.out hB) (bg.nil))))
 ·intro _ zZ w_ hB hr
  obtain ⟨v23,e23,n23⟩:∃ v,zZ.tmps[23]?=some v∧(Rg.Val.at (cE (wc.heap.size) [a,x,z,z])).ok v w_:=hr 23 (by decide);obtain ⟨g23,rfl,Gh⟩:=Rg.af n23;have ef:=Rg.ef zZ;refine Rg.aY rfl (by go_simp;exact ⟨rfl,rfl⟩) ?_;refine (R2.out _ _ _ Gh).mono ?_;rintro e w5 ⟨zD,rfl,yV,hb5⟩;exact ⟨_,rfl,aJ.at yV (by have:=hB.size;omega),hb5⟩
 ·intro _ zZ w_ hB hr
  have e2:zZ.tmps[2]?=some (.pointer (some ⟨w.heap.size,0,none⟩)):=hr 2 (by decide);exact Rg.aG rfl (by go_simp)
 ·intro _ zZ w_ hB hr
  have e25:=Rg.a_ (hr 25 (by decide));have k1:=aE hB C.box.c1;exact Rg.aG rfl (by go_simp)
 ·intro _ zZ w_ hB hr
  have e26:=Rg.a_ (hr 26 (by decide));have ef:=Rg.ef zZ;refine Rg.aY rfl (by go_simp;exact ⟨rfl,rfl⟩) ?_;refine (N2.out _).mono ?_;rintro e w5 ⟨zD,rfl,yV,hb5⟩;exact ⟨_,rfl,aJ.at yV (by have:=hB.size;omega),hb5⟩
 ·intro _ zZ w_ hB hr
  have e6:zZ.tmps[6]?=some (.pointer (some ⟨gz,0,none⟩)):=hr 6 (by decide);have k0:=aE hB Z.box.c0;have k1:=aE hB Z.box.c1;exact Rg.aG rfl (by go_simp)
 ·intro _ zZ w_ hB hr
  have e6:zZ.tmps[6]?=some (.pointer (some ⟨gz,0,none⟩)):=hr 6 (by decide);have k0:=aE hB Z.box.c0;have k1:=aE hB Z.box.c1;exact Rg.aG rfl (by go_simp)
 ·intro _ zZ w_ hB hr
  have e6:zZ.tmps[6]?=some (.pointer (some ⟨gz,0,none⟩)):=hr 6 (by decide);have k0:=aE hB Z.box.c0;have k1:=aE hB Z.box.c1;exact Rg.aG rfl (by go_simp)
 ·intro _ zZ w_ hB hr
  obtain ⟨v27,e27,n27⟩:∃ v,zZ.tmps[27]?=some v∧(Rg.Val.at (aJ (wc.heap.size) (b))).ok v w_:=hr 27 (by decide);obtain ⟨Gt,a27,Ge,Fs,GW,rfl,Jh⟩:=(Rg.af n27).view;have e28:=Rg.a_ (hr 28 (by decide));have e29:=Rg.a_ (hr 29 (by decide));have e30:=Rg.a_ (hr 30 (by decide));refine Rg.kr rfl (x:=.slice (some ⟨w_.heap.size,0,none⟩) 4 4) (ob:=.cells (List.toArray [.bool Gt,.slice a27 Ge Fs,.bool s2,.slice az lz cz,.bool s2,.slice az lz cz,.bool s2,.slice az lz cz]) 136) (by first | (go_simp;done) | (go_simp;exact ⟨rfl,rfl⟩) | (go_simp;rfl)) (cE.at (by have:=hB.size;omega) ?_ rfl);exact bg.cons GW.out Jh (bg.cons hs2.out (aF.below oz.out hB) (bg.cons hs2.out (aF.below oz.out hB) (bg.cons hs2.out (aF.below oz.out hB) (bg.nil))))
 ·intro _ zZ w_ hB hr
  obtain ⟨v31,e31,n31⟩:∃ v,zZ.tmps[31]?=some v∧(Rg.Val.at (cE (wc.heap.size) [b,z,z,z])).ok v w_:=hr 31 (by decide);obtain ⟨g31,rfl,Nd⟩:=Rg.af n31;have ef:=Rg.ef zZ;refine Rg.aY rfl (by go_simp;exact ⟨rfl,rfl⟩) ?_;refine (R3.out _ _ _ Nd).mono ?_;rintro e w5 ⟨zD,rfl,yV,hb5⟩;exact ⟨_,rfl,aJ.at yV (by have:=hB.size;omega),hb5⟩
 ·intro _ zZ w_ hB hr
  obtain ⟨v16,e16,n16⟩:∃ v,zZ.tmps[16]?=some v∧(Rg.Val.at (aJ (wc.heap.size) (Br))).ok v w_:=hr 16 (by decide);obtain ⟨s16,a16,Cv,c16,BP,rfl,o16⟩:=(Rg.af n16).view;obtain ⟨v24,e24,n24⟩:∃ v,zZ.tmps[24]?=some v∧(Rg.Val.at (aJ (wc.heap.size) (Bu))).ok v w_:=hr 24 (by decide);obtain ⟨s24,a24,ET,c24,DI,rfl,HG⟩:=(Rg.af n24).view;obtain ⟨v32,e32,n32⟩:∃ v,zZ.tmps[32]?=some v∧(Rg.Val.at (aJ (wc.heap.size) (B0))).ok v w_:=hr 32 (by decide);obtain ⟨s32,a32,l32,c32,GX,rfl,o32⟩:=(Rg.af n32).view;refine Rg.kr rfl (x:=.slice (some ⟨w_.heap.size,0,none⟩) 3 3) (ob:=.cells (List.toArray [.bool s16,.slice a16 Cv c16,.bool s24,.slice a24 ET c24,.bool s32,.slice a32 l32 c32]) 136) (by first | (go_simp;done) | (go_simp;exact ⟨rfl,rfl⟩) | (go_simp;rfl)) (cE.at (by have:=hB.size;omega) ?_ rfl);exact bg.cons BP.out o16 (bg.cons DI.out HG (bg.cons GX.out o32 (bg.nil)))
 ·intro _ zZ w_ hB hr
  obtain ⟨v33,e33,n33⟩:∃ v,zZ.tmps[33]?=some v∧(Rg.Val.at (cE (wc.heap.size) [Br,Bu,B0])).ok v w_:=hr 33 (by decide);obtain ⟨g33,rfl,Gi⟩:=Rg.af n33;have ef:=Rg.ef zZ;refine Rg.aY rfl (by go_simp;exact ⟨rfl,rfl⟩) ?_;refine (R5.out _ _ _ Gi).mono ?_;rintro e w5 ⟨zD,rfl,yV,hb5⟩;exact ⟨_,rfl,aJ.at yV (by have:=hB.size;omega),hb5⟩
 ·intro _ zZ w_ hB hr
  exact ⟨by have:=hB.size;omega,rfl,by first | (go_simp;done) | (go_simp;rfl)⟩
 intro vals wz hB hv hne;have n7:(Rg.Val.new (wc.heap.size) 136 #[.bool false,.slice none 0 0]).ok (vals 23) wz:=hv 23 (by decide);have n34:(Rg.Val.at (aJ (wc.heap.size) (Gm))).ok (vals 22) wz:=hv 22 (by decide);simp only [Rg.ak,Rg.fill,Act.put,Nat.reduceAdd];clear hv;obtain ⟨g7,Et,EH,o7⟩:=n7;replace o7:aH wz g7 136 #[.bool false,.slice none 0 0]:=o7;obtain ⟨HI,a34,HD,c34,M3,CU,o34⟩:=(Rg.af n34).view;simp only [EH,CU];clear EH CU;have hB2:Below wc.heap.size wc ((wz.setCell ⟨g7,0,none⟩ (.bool HI)).setCell ⟨g7,1,none⟩ (.slice a34 HD c34)):=yL (yL hB Et _) Et _;have D:=aH.set2 o7 (.bool HI) (.slice a34 HD c34);have oD:=yJ (aF.bF o34 o7 (by decide) (.bool HI) (.slice a34 HD c34));have ⟨c0,c1,f0,f1,_⟩:=o7.box;unfold Rg.aW Rg.aW Oper.wp
 go_simp
 clear c0 c1 f0 f1 o7 o34;generalize ((wz.setCell ⟨g7,0,none⟩ (.bool HI)).setCell ⟨g7,1,none⟩ (.slice a34 HD c34))=wd at *;replace Z:=Z.keep hB2;replace R:=R.keep hB2;replace oz:=yJ (aF.below oz.out hB2);replace hw:=i_ hw hB2;have DL:wc.heap.size≤wd.heap.size:=hB2.size
 go_upto_region 3 with fail
 clear hB2;refine Rg.bK 5 [.at (aJ (wd.heap.size) (4)),.is (.agg #[.bool s2,.slice az lz cz]),.is (.agg #[.bool HI,.slice a34 HD c34]),.at (cE (wd.heap.size) [4,z,Gm]),.at (aJ (wd.heap.size) (F))] (by kernel_rfl) (by kernel_rfl) (by kernel_rfl) ⟨?_,?_,?_,?_,?_,fun h_=>absurd h_ (by decide),trivial⟩ ?_
 ·intro _ zZ w_ hB hr
  have ec:=Rg.ec zZ;have ef:=Rg.ef zZ;refine Rg.aY rfl (by go_simp;exact ⟨rfl,rfl⟩) ?_;refine (N3.out _).mono ?_;rintro e w5 ⟨zD,rfl,yV,hb5⟩;exact ⟨_,rfl,aJ.at yV (by have:=hB.size;omega),hb5⟩
 ·intro _ zZ w_ hB hr
  have e6:zZ.tmps[6]?=some (.pointer (some ⟨gz,0,none⟩)):=hr 6 (by decide);have k0:=aE hB Z.box.c0;have k1:=aE hB Z.box.c1;exact Rg.aG rfl (by go_simp)
 ·intro _ zZ w_ hB hr
  have e7:zZ.tmps[7]?=some (.pointer (some ⟨g7,0,none⟩)):=hr 7 (by decide);have k0:=aE hB D.box.c0;have k1:=aE hB D.box.c1;exact Rg.aG rfl (by go_simp)
 ·intro _ zZ w_ hB hr
  obtain ⟨v35,e35,n35⟩:∃ v,zZ.tmps[35]?=some v∧(Rg.Val.at (aJ (wd.heap.size) (4))).ok v w_:=hr 35 (by decide);obtain ⟨s35,a35,l35,c35,M4,rfl,Nf⟩:=(Rg.af n35).view;have e36:=Rg.a_ (hr 36 (by decide));have e37:=Rg.a_ (hr 37 (by decide));refine Rg.kr rfl (x:=.slice (some ⟨w_.heap.size,0,none⟩) 3 3) (ob:=.cells (List.toArray [.bool s35,.slice a35 l35 c35,.bool s2,.slice az lz cz,.bool HI,.slice a34 HD c34]) 136) (by first | (go_simp;done) | (go_simp;exact ⟨rfl,rfl⟩) | (go_simp;rfl)) (cE.at (by have:=hB.size;omega) ?_ rfl);exact bg.cons M4.out Nf (bg.cons hs2.out (aF.below oz.out hB) (bg.cons M3.out (aF.below oD.out hB) (bg.nil)))
 ·intro _ zZ w_ hB hr
  obtain ⟨v38,e38,n38⟩:∃ v,zZ.tmps[38]?=some v∧(Rg.Val.at (cE (wd.heap.size) [4,z,Gm])).ok v w_:=hr 38 (by decide);obtain ⟨g38,rfl,Ng⟩:=Rg.af n38;have ef:=Rg.ef zZ;refine Rg.aY rfl (by go_simp;exact ⟨rfl,rfl⟩) ?_;refine (R6.out _ _ _ Ng).mono ?_;rintro e w5 ⟨zD,rfl,yV,hb5⟩;exact ⟨_,rfl,aJ.at yV (by have:=hB.size;omega),hb5⟩
 intro vals wy hB4 hv hne;have n39:(Rg.Val.at (aJ (wd.heap.size) (F))).ok (vals 4) wy:=hv 4 (by decide);simp only [Rg.ak,Rg.fill,Act.put,Nat.reduceAdd];clear hv;obtain ⟨Nk,a39,NS,L0,M8,Cy,o39⟩:=(Rg.af n39).view;simp only [Cy];clear Cy;have R2:=R.keep hB4;have ⟨c0,c1,f0,f1,_⟩:=R2.box;have hr1:=aF.base (aF.bF o39 R2 (by decide) (.bool Nk) (.slice a39 NS L0)) (show w.heap.size≤wd.heap.size from hw.size);have hr2:Below w.heap.size w ((wy.setCell ⟨w.heap.size+1+1,0,none⟩ (.bool Nk)).setCell ⟨w.heap.size+1+1,1,none⟩ (.slice a39 NS L0)):=yL (yL (i_ hw hB4) (by simp <;> omega) _) (by simp <;> omega) _;unfold Rg.aW Rg.aW Oper.wp
 go_simp
 go_wp2;exact bodyPost_ret (v:=.agg #[.bool Nk,.slice a39 NS L0]) (by simp [results,Tryz.results148,go_sem, *]) rfl (⟨_,by rw [M8.out],hr1,hr2⟩)
theorem kk (a b x z:Int) (vx vz:Value) (w:World) (bx bz:Nat) (hox:ag w bx vx x) (zO:ag w bz vz z) (hx:Wh.sz x 1000) (hz:Wh.sz z 1000) (ha1:-1000≤a) (ha2:a≤1000) (hb1:-10000≤b) (hb2:b≤10000) :
  Calls Tryz.prog 143 #[.agg #[.int .i64 a,.int .i64 b],.agg #[.bool (decide (x<0)),vx,.bool (decide (z<0)),vz]] w fun e w'=>∃ sl,e=.returned (.agg #[.bool (decide (Wh.bJ a b x z<0)),sl])∧ag w' w.heap.size sl (Wh.bJ a b x z)∧Below w.heap.size w w':=by
 obtain ⟨ax,cx,rfl,-,-⟩:=aF.view hox;obtain ⟨az,cz,rfl,-,-⟩:=aF.view zO;have m1:=Wh.am hx hx;have m0:=Wh.am hz hz;have m2:=Wh.am m1 hx;have m3:=Wh.am hx m0;have m4:=Wh.am m3 (Wh.bW (n:=a) (by omega) (by omega));have m5:=Wh.gD (Wh.aP m2 (show 1000+1000+1000≤4000 by omega)) (Wh.aP m4 (show _≤4000 by omega));have m6:=Wh.am hz m0;have m7:=Wh.am m6 (Wh.bW (n:=b) (by omega) (by omega));have m8:=Wh.gD (Wh.aP m5 (show 4000+1≤4100 by omega)) (Wh.aP m7 (show _≤4100 by omega));have m9:=Wh.am hz m8
 have P0:=fun v W k (h:aF W k v (Wh.d_ (z).natAbs))=>dk (z) v W k h (Wh.aV.2 (Wh.aP hz (by omega)))
 have P1:=fun v W k (h:aF W k v (Wh.d_ (x).natAbs))=>dk (x) v W k h (Wh.aV.2 (Wh.aP hx (by omega)))
 have P2:=fun v v' W k k' (h:aF W k v (Wh.d_ (x*x).natAbs)) (h':aF W k' v' (Wh.d_ (x).natAbs))=>d6 (x*x) (x) v v' W k k' h h' (Wh.aV.2 (Wh.aP m1 (by omega))) (Wh.aV.2 (Wh.aP hx (by omega)))
 have P3:=fun v v' W k k' (h:aF W k v (Wh.d_ (x).natAbs)) (h':aF W k' v' (Wh.d_ (z*z).natAbs))=>d6 (x) (z*z) v v' W k k' h h' (Wh.aV.2 (Wh.aP hx (by omega))) (Wh.aV.2 (Wh.aP m0 (by omega)))
 have P4:=fun v W k (h:aF W k v (Wh.d_ (x*(z*z)).natAbs))=>eA (x*(z*z)) (a) v W k h (Wh.aV.2 (Wh.aP m3 (by omega))) (by omega) (by omega)
 have P5:=fun v v' W k k' (h:aF W k v (Wh.d_ (x*x*x).natAbs)) (h':aF W k' v' (Wh.d_ (x*(z*z)*a).natAbs))=>jI (x*x*x) (x*(z*z)*a) v v' W k k' h h' (Wh.aV.2 (Wh.aP m2 (by omega))) (Wh.aV.2 (Wh.aP m4 (by omega)))
 have P6:=fun v v' W k k' (h:aF W k v (Wh.d_ (z).natAbs)) (h':aF W k' v' (Wh.d_ (z*z).natAbs))=>d6 (z) (z*z) v v' W k k' h h' (Wh.aV.2 (Wh.aP hz (by omega))) (Wh.aV.2 (Wh.aP m0 (by omega)))
 have P7:=fun v W k (h:aF W k v (Wh.d_ (z*(z*z)).natAbs))=>eA (z*(z*z)) (b) v W k h (Wh.aV.2 (Wh.aP m6 (by omega))) (by omega) (by omega)
 have P8:=fun v v' W k k' (h:aF W k v (Wh.d_ (x*x*x+x*(z*z)*a).natAbs)) (h':aF W k' v' (Wh.d_ (z*(z*z)*b).natAbs))=>jI (x*x*x+x*(z*z)*a) (z*(z*z)*b) v v' W k k' h h' (Wh.aV.2 (Wh.aP m5 (by omega))) (Wh.aV.2 (Wh.aP m7 (by omega)))
 have P9:=fun v v' W k k' (h:aF W k v (Wh.d_ (z).natAbs)) (h':aF W k' v' (Wh.d_ (x*x*x+x*(z*z)*a+z*(z*z)*b).natAbs))=>d6 (z) (x*x*x+x*(z*z)*a+z*(z*z)*b) v v' W k k' h h' (Wh.aV.2 (Wh.aP hz (by omega))) (Wh.aV.2 (Wh.aP m8 (by omega)))
 have PA:=fun v W k (h:aF W k v (Wh.d_ (z*(x*x*x+x*(z*z)*a+z*(z*z)*b)).natAbs))=>eA (z*(x*x*x+x*(z*z)*a+z*(z*z)*b)) (4) v W k h (Wh.aV.2 (Wh.aP m9 (by omega))) (by omega) (by omega)
 have hT:=Wh.nJ a b x z;rw [hT] at PA;clear hT m1 m0 m2 m3 m4 m5 m6 m7 m8 m9;generalize Wh.bJ a b x z=F at *;generalize Fy:x*x*x+x*(z*z)*a+z*(z*z)*b=S2 at *;generalize Fx:x*x*x+x*(z*z)*a=S1 at *;generalize MS:z*(z*z)*b=zb at *;generalize MU:z*(z*z)=zc at *;generalize MJ:x*(z*z)*a=xa at *;generalize MN:x*(z*z)=xz at *;generalize ML:x*x*x=xc at *;generalize Fz:x*x=xq at *;generalize F0:z*z=zq at *;generalize hGg:z*S2=zs2 at *;clear Fy Fx MS MU MJ MN ML Fz F0 hGg;replace P0:=yJ P0;replace P1:=yJ P1;replace P2:=yJ P2;replace P3:=yJ P3;replace P4:=yJ P4;replace P5:=yJ P5;replace P6:=yJ P6;replace P7:=yJ P7;replace P8:=yJ P8;replace P9:=yJ P9;replace PA:=yJ PA;generalize hs1:decide (x<0)=s1 at *;replace hs1:=yJ hs1.symm;generalize hs2:decide (z<0)=s2 at *;replace hs2:=yJ hs2.symm;replace hox:=yJ (show aF _ _ _ _ from hox);replace zO:=yJ (show aF _ _ _ _ from zO);generalize (Wh.d_ z.natAbs).length=lz,(Wh.d_ x.natAbs).length=lx at *;have b1:=((aH.new w #[.int .i64 a,.int .i64 b] 29).alloc (.cells #[.bool s1,.slice ax lx cx,.bool s2,.slice az lz cz] 157)).alloc (.cells #[.bool false,.slice none 0 0] 136);have b2:=(aH.new (w.alloc (.cells #[.int .i64 a,.int .i64 b] 29)) #[.bool s1,.slice ax lx cx,.bool s2,.slice az lz cz] 157).alloc (.cells #[.bool false,.slice none 0 0] 136);rw [yK] at b2;have b3:=aH.new ((w.alloc (.cells #[.int .i64 a,.int .i64 b] 29)).alloc (.cells #[.bool s1,.slice ax lx cx,.bool s2,.slice az lz cz] 157)) #[.bool false,.slice none 0 0] 136;rw [cU] at b3;have hB:=(((yM w.heap.size w).alloc (yN _) (.cells #[.int .i64 a,.int .i64 b] 29)).alloc (by rw [yK];omega) (.cells #[.bool s1,.slice ax lx cx,.bool s2,.slice az lz cz] 157)).alloc (by rw [cU];omega) (.cells #[.bool false,.slice none 0 0] 136)
 have hz3:(((w.alloc (.cells #[.int .i64 a,.int .i64 b] 29)).alloc (.cells #[.bool s1,.slice ax lx cx,.bool s2,.slice az lz cz] 157)).alloc (.cells #[.bool false,.slice none 0 0] 136)).heap.size=w.heap.size+3:=by rw [yK,cU]
 have BA:=yJ (aF.alloc (aF.alloc (aF.alloc hox.out (.cells #[.int .i64 a,.int .i64 b] 29)) (.cells #[.bool s1,.slice ax lx cx,.bool s2,.slice az lz cz] 157)) (.cells #[.bool false,.slice none 0 0] 136));have BC:=yJ (aF.alloc (aF.alloc (aF.alloc zO.out (.cells #[.int .i64 a,.int .i64 b] 29)) (.cells #[.bool s1,.slice ax lx cx,.bool s2,.slice az lz cz] 157)) (.cells #[.bool false,.slice none 0 0] 136));clear hox zO;generalize hw3:((w.alloc (.cells #[.int .i64 a,.int .i64 b] 29)).alloc (.cells #[.bool s1,.slice ax lx cx,.bool s2,.slice az lz cz] 157)).alloc (.cells #[.bool false,.slice none 0 0] 136)=w3 at *;have e0:=b2.aM.c0;have e1:=b2.aM.c1;have e2:=b2.aM.c2;have e3:=b2.aM.c3;go_enter Tryz.func143,Tryz.ntmps143
 go_wp2
 go_upto_region 1 with fail
 go_cut [5,6] (fun p q wx=>∃ gx gz,w.heap.size+3≤gx∧w.heap.size+3≤gz∧p=.pointer (some ⟨gx,0,none⟩)∧q=.pointer (some ⟨gz,0,none⟩)∧aH wx gx 136 #[.bool s1,.slice ax lx cx]∧aH wx gz 136 #[.bool s2,.slice az lz cz]∧Below (w.heap.size+3) w3 wx)
 case first=>
  go_region
  all_goals
   go_wp2_with fail
   go_meet
   first
   | exact (oj _ _ hz3 _ _ _ _ _).1
   | exact (oj _ _ hz3 _ _ _ _ _).2
 case rest=>
 obtain ⟨gx,gz,hgx,hgz,rfl,rfl,X,Z,hbx⟩:=hcut;rw [←hz3] at hbx;have ox:=yJ (aF.below BA.out hbx);have oz:=yJ (aF.below BC.out hbx);have C:=b1.keep hbx;have R:=b3.keep hbx;have hw:=i_ hB hbx
 have DK:w.heap.size+3≤wc.heap.size:=by have:=hbx.size;omega
 clear hz3;clear b1 b2 b3 e0 e1 e2 e3 hB hbx BA BC;have z0:=Z.box.c0;have z1:=Z.box.c1
 go_wp2_with (go_at_call 154;(with_reducible refine (P0.out _ _ _ oz.out).mono ?_);rintro e w4 ⟨v3,rfl,ho3,hb4⟩;obtain ⟨a3,k3,rfl,JW,hv3⟩:=aF.view ho3;clear JW hv3 z0 z1)
 have Au:wc.heap.size≤w4.heap.size:=hb4.size;generalize (Wh.d_ zq.natAbs).length=l3 at *;generalize hs3:decide (zq<0)=s3 at *;replace hs3:=yJ hs3.symm;have o3:=yJ (aF.alloc (show aF _ _ _ _ from ho3) (.cells #[.bool s3,.slice a3 l3 k3] 136));clear ho3;have T:=aH.new w4 #[.bool s3,.slice a3 l3 k3] 136;have hB2:Below wc.heap.size wc (w4.alloc (.cells #[.bool s3,.slice a3 l3 k3] 136)):=hb4.alloc Au (.cells #[.bool s3,.slice a3 l3 k3] 136);have Et:wc.heap.size≤w4.heap.size:=Au;have IB:gz<wc.heap.size:=Z.lt
 go_upto_region 3 with fail
 generalize w4.alloc (.cells #[.bool s3,.slice a3 l3 k3] 136)=wd at *;replace X:=X.keep hB2;replace Z:=Z.keep hB2;replace C:=C.keep hB2;replace R:=R.keep hB2;replace ox:=yJ (aF.below ox.out hB2);replace oz:=yJ (aF.below oz.out hB2);replace hw:=i_ hw hB2;have DL:wc.heap.size≤wd.heap.size:=hB2.size
 replace IB:gz<wd.heap.size:=by omega
 replace DK:w.heap.size+3≤wd.heap.size:=by omega
 clear hB2 hb4;refine Rg.bK 12 [.is (.agg #[.bool s1,.slice ax lx cx]),.at (aJ (wd.heap.size) (xq)),.is (.agg #[.bool s1,.slice ax lx cx]),.at (aJ (wd.heap.size) (xc)),.is (.agg #[.bool s1,.slice ax lx cx]),.is (.agg #[.bool s3,.slice a3 l3 k3]),.at (aJ (wd.heap.size) (xz)),.is (.pointer (some ⟨w.heap.size,0,none⟩)),.is (.int .i64 a),.at (aJ (wd.heap.size) (xa)),.at (aJ (wd.heap.size) (S1)),.new (wd.heap.size) 136 #[.bool false,.slice none 0 0]] (by kernel_rfl) (by kernel_rfl) (by kernel_rfl) ⟨?_,?_,?_,?_,?_,?_,?_,?_,?_,?_,?_,?_,fun h_=>absurd h_ (by decide),trivial⟩ ?_
 ·intro _ zZ w_ hB hr
  have e5:zZ.tmps[5]?=some (.pointer (some ⟨gx,0,none⟩)):=hr 5 (by decide);have k0:=aE hB X.box.c0;have k1:=aE hB X.box.c1;exact Rg.aG rfl (by go_simp)
 ·intro _ zZ w_ hB hr
  have e15:=Rg.a_ (hr 15 (by decide));have ef:=Rg.ef zZ;refine Rg.aY rfl (by go_simp;exact ⟨rfl,rfl⟩) ?_;refine (P1.out _ _ _ (aF.below ox.out hB)).mono ?_;rintro e w5 ⟨zD,rfl,yV,hb5⟩;exact ⟨_,rfl,aJ.at yV (by have:=hB.size;omega),hb5⟩
 ·intro _ zZ w_ hB hr
  have e5:zZ.tmps[5]?=some (.pointer (some ⟨gx,0,none⟩)):=hr 5 (by decide);have k0:=aE hB X.box.c0;have k1:=aE hB X.box.c1;exact Rg.aG rfl (by go_simp)
 ·intro _ zZ w_ hB hr
  obtain ⟨v16,e16,n16⟩:∃ v,zZ.tmps[16]?=some v∧(Rg.Val.at (aJ (wd.heap.size) (xq))).ok v w_:=hr 16 (by decide);obtain ⟨s16,a16,Cv,c16,BP,rfl,o16⟩:=(Rg.af n16).view;have e17:=Rg.a_ (hr 17 (by decide));have ef:=Rg.ef zZ;refine Rg.aY rfl (by go_simp;exact ⟨rfl,rfl⟩) ?_;obtain rfl:=BP.out;refine (P2.out _ _ _ _ _ o16 (aF.below ox.out hB)).mono ?_;rintro e w5 ⟨zD,rfl,yV,hb5⟩;exact ⟨_,rfl,aJ.at yV (by have:=hB.size;omega),hb5⟩
 ·intro _ zZ w_ hB hr
  have e5:zZ.tmps[5]?=some (.pointer (some ⟨gx,0,none⟩)):=hr 5 (by decide);have k0:=aE hB X.box.c0;have k1:=aE hB X.box.c1;exact Rg.aG rfl (by go_simp)
 ·intro _ zZ w_ hB hr
  have e7:zZ.tmps[7]?=some (.pointer (some ⟨w4.heap.size,0,none⟩)):=hr 7 (by decide);have k0:=aE hB T.box.c0;have k1:=aE hB T.box.c1;exact Rg.aG rfl (by go_simp)
 ·intro _ zZ w_ hB hr
  have e19:=Rg.a_ (hr 19 (by decide));have e20:=Rg.a_ (hr 20 (by decide));have ef:=Rg.ef zZ;refine Rg.aY rfl (by go_simp;exact ⟨rfl,rfl⟩) ?_;refine (P3.out _ _ _ _ _ (aF.below ox.out hB) (aF.below o3.out hB)).mono ?_;rintro e w5 ⟨zD,rfl,yV,hb5⟩;exact ⟨_,rfl,aJ.at yV (by have:=hB.size;omega),hb5⟩
 ·intro _ zZ w_ hB hr
  have e2:zZ.tmps[2]?=some (.pointer (some ⟨w.heap.size,0,none⟩)):=hr 2 (by decide);exact Rg.aG rfl (by go_simp)
 ·intro _ zZ w_ hB hr
  have e22:=Rg.a_ (hr 22 (by decide));have k0:=aE hB C.box.c0;exact Rg.aG rfl (by go_simp)
 ·intro _ zZ w_ hB hr
  obtain ⟨v21,e21,n21⟩:∃ v,zZ.tmps[21]?=some v∧(Rg.Val.at (aJ (wd.heap.size) (xz))).ok v w_:=hr 21 (by decide);obtain ⟨s21,a21,l21,c21,Mv,rfl,o21⟩:=(Rg.af n21).view;have e23:=Rg.a_ (hr 23 (by decide));have ef:=Rg.ef zZ;refine Rg.aY rfl (by go_simp;exact ⟨rfl,rfl⟩) ?_;obtain rfl:=Mv.out;refine (P4.out _ _ _ o21).mono ?_;rintro e w5 ⟨zD,rfl,yV,hb5⟩;exact ⟨_,rfl,aJ.at yV (by have:=hB.size;omega),hb5⟩
 ·intro _ zZ w_ hB hr
  obtain ⟨v18,e18,n18⟩:∃ v,zZ.tmps[18]?=some v∧(Rg.Val.at (aJ (wd.heap.size) (xc))).ok v w_:=hr 18 (by decide);obtain ⟨s18,a18,l18,c18,GT,rfl,Nb⟩:=(Rg.af n18).view;obtain ⟨v24,e24,n24⟩:∃ v,zZ.tmps[24]?=some v∧(Rg.Val.at (aJ (wd.heap.size) (xa))).ok v w_:=hr 24 (by decide);obtain ⟨s24,a24,ET,c24,DI,rfl,HG⟩:=(Rg.af n24).view;have ef:=Rg.ef zZ;refine Rg.aY rfl (by go_simp;exact ⟨rfl,rfl⟩) ?_;obtain rfl:=GT.out;obtain rfl:=DI.out;refine (P5.out _ _ _ _ _ Nb HG).mono ?_;rintro e w5 ⟨zD,rfl,yV,hb5⟩;exact ⟨_,rfl,aJ.at yV (by have:=hB.size;omega),hb5⟩
 ·intro _ zZ w_ hB hr
  exact ⟨by have:=hB.size;omega,rfl,by first | (go_simp;done) | (go_simp;rfl)⟩
 intro vals wz hB hv hne;have n8:(Rg.Val.new (wd.heap.size) 136 #[.bool false,.slice none 0 0]).ok (vals 11) wz:=hv 11 (by decide);have n25:(Rg.Val.at (aJ (wd.heap.size) (S1))).ok (vals 10) wz:=hv 10 (by decide);simp only [Rg.ak,Rg.fill,Act.put,Nat.reduceAdd];clear hv;obtain ⟨g8,GE,zo,o8⟩:=n8;replace o8:aH wz g8 136 #[.bool false,.slice none 0 0]:=o8;obtain ⟨I1,a25,Ik,Ht,Mx,yn,Jg⟩:=(Rg.af n25).view;simp only [zo,yn];clear zo yn;have hB2:Below wd.heap.size wd ((wz.setCell ⟨g8,0,none⟩ (.bool I1)).setCell ⟨g8,1,none⟩ (.slice a25 Ik Ht)):=yL (yL hB GE _) GE _;have U:=aH.set2 o8 (.bool I1) (.slice a25 Ik Ht);have oU:=yJ (aF.bF Jg o8 (by decide) (.bool I1) (.slice a25 Ik Ht));have ⟨c0,c1,f0,f1,_⟩:=o8.box;unfold Rg.aW Rg.aW Oper.wp
 go_simp
 clear c0 c1 f0 f1 o8 Jg;generalize ((wz.setCell ⟨g8,0,none⟩ (.bool I1)).setCell ⟨g8,1,none⟩ (.slice a25 Ik Ht))=we at *;replace Z:=Z.keep hB2;replace C:=C.keep hB2;replace R:=R.keep hB2;replace T:=T.keep hB2;replace oz:=yJ (aF.below oz.out hB2);replace o3:=yJ (aF.below o3.out hB2);replace hw:=i_ hw hB2;have DL:wd.heap.size≤we.heap.size:=hB2.size
 go_upto_region 4 with fail
 clear hB2 hB;refine Rg.bK 8 [.is (.agg #[.bool I1,.slice a25 Ik Ht]),.is (.agg #[.bool s2,.slice az lz cz]),.is (.agg #[.bool s3,.slice a3 l3 k3]),.at (aJ (we.heap.size) (zc)),.is (.pointer (some ⟨w.heap.size,1,none⟩)),.is (.int .i64 b),.at (aJ (we.heap.size) (zb)),.at (aJ (we.heap.size) (S2))] (by kernel_rfl) (by kernel_rfl) (by kernel_rfl) ⟨?_,?_,?_,?_,?_,?_,?_,?_,fun h_=>absurd h_ (by decide),trivial⟩ ?_
 ·intro _ zZ w_ hB hr
  have e8:zZ.tmps[8]?=some (.pointer (some ⟨g8,0,none⟩)):=hr 8 (by decide);have k0:=aE hB U.box.c0;have k1:=aE hB U.box.c1;exact Rg.aG rfl (by go_simp)
 ·intro _ zZ w_ hB hr
  have e6:zZ.tmps[6]?=some (.pointer (some ⟨gz,0,none⟩)):=hr 6 (by decide);have k0:=aE hB Z.box.c0;have k1:=aE hB Z.box.c1;exact Rg.aG rfl (by go_simp)
 ·intro _ zZ w_ hB hr
  have e7:zZ.tmps[7]?=some (.pointer (some ⟨w4.heap.size,0,none⟩)):=hr 7 (by decide);have k0:=aE hB T.box.c0;have k1:=aE hB T.box.c1;exact Rg.aG rfl (by go_simp)
 ·intro _ zZ w_ hB hr
  have e27:=Rg.a_ (hr 27 (by decide));have e28:=Rg.a_ (hr 28 (by decide));have ef:=Rg.ef zZ;refine Rg.aY rfl (by go_simp;exact ⟨rfl,rfl⟩) ?_;refine (P6.out _ _ _ _ _ (aF.below oz.out hB) (aF.below o3.out hB)).mono ?_;rintro e w5 ⟨zD,rfl,yV,hb5⟩;exact ⟨_,rfl,aJ.at yV (by have:=hB.size;omega),hb5⟩
 ·intro _ zZ w_ hB hr
  have e2:zZ.tmps[2]?=some (.pointer (some ⟨w.heap.size,0,none⟩)):=hr 2 (by decide);exact Rg.aG rfl (by go_simp)
 ·intro _ zZ w_ hB hr
  have e30:=Rg.a_ (hr 30 (by decide));have k1:=aE hB C.box.c1;exact Rg.aG rfl (by go_simp)
 ·intro _ zZ w_ hB hr
  obtain ⟨v29,e29,n29⟩:∃ v,zZ.tmps[29]?=some v∧(Rg.Val.at (aJ (we.heap.size) (zc))).ok v w_:=hr 29 (by decide);obtain ⟨s29,a29,l29,c29,My,rfl,o29⟩:=(Rg.af n29).view;have e31:=Rg.a_ (hr 31 (by decide));have ef:=Rg.ef zZ;refine Rg.aY rfl (by go_simp;exact ⟨rfl,rfl⟩) ?_;obtain rfl:=My.out;refine (P7.out _ _ _ o29).mono ?_;rintro e w5 ⟨zD,rfl,yV,hb5⟩;exact ⟨_,rfl,aJ.at yV (by have:=hB.size;omega),hb5⟩
 ·intro _ zZ w_ hB hr
  have e26:=Rg.a_ (hr 26 (by decide));obtain ⟨v32,e32,n32⟩:∃ v,zZ.tmps[32]?=some v∧(Rg.Val.at (aJ (we.heap.size) (zb))).ok v w_:=hr 32 (by decide);obtain ⟨s32,a32,l32,c32,GX,rfl,o32⟩:=(Rg.af n32).view;have ef:=Rg.ef zZ;refine Rg.aY rfl (by go_simp;exact ⟨rfl,rfl⟩) ?_;obtain rfl:=GX.out;rw [Mx.out];refine (P8.out _ _ _ _ _ (aF.below oU.out hB) o32).mono ?_;rintro e w5 ⟨zD,rfl,yV,hb5⟩;exact ⟨_,rfl,aJ.at yV (by have:=hB.size;omega),hb5⟩
 intro vals wy hB hv hne;have n33:(Rg.Val.at (aJ (we.heap.size) (S2))).ok (vals 7) wy:=hv 7 (by decide);simp only [Rg.ak,Rg.fill,Act.put,Nat.reduceAdd];clear hv;obtain ⟨E7,a33,E5,Eg,D1,BS,Gi⟩:=(Rg.af n33).view;simp only [BS];clear BS;have U2:=U.keep hB;have hB2:Below wd.heap.size we ((wy.setCell ⟨g8,0,none⟩ (.bool E7)).setCell ⟨g8,1,none⟩ (.slice a33 E5 Eg)):=yL (yL (hB.mono DL) GE _) GE _;have oS:=yJ (aF.bF Gi U2 (by decide) (.bool E7) (.slice a33 E5 Eg));have U3:=aH.set2 U2 (.bool E7) (.slice a33 E5 Eg)
 have hgz9:gz<wd.heap.size∧w.heap.size+1+1<wd.heap.size:=⟨IB,by have:=DK;omega⟩
 have Z5:aH ((wy.setCell ⟨g8,0,none⟩ (.bool E7)).setCell ⟨g8,1,none⟩ (.slice a33 E5 Eg)) gz 136 #[.bool s2,.slice az lz cz]:=((Z.keep hB).other (by omega) _).other (by omega) _;have R5:aH ((wy.setCell ⟨g8,0,none⟩ (.bool E7)).setCell ⟨g8,1,none⟩ (.slice a33 E5 Eg)) (w.heap.size+1+1) 136 #[.bool false,.slice none 0 0]:=((R.keep hB).other (by omega) _).other (by omega) _;have oz5:=yJ (aF.bF (aF.below oz.out hB) U2 (by decide) (.bool E7) (.slice a33 E5 Eg));have HB:=hw.trans (hB2.mono (show w.heap.size≤wd.heap.size by omega));have ⟨c0,c1,f0,f1,_⟩:=U2.box;unfold Rg.aW Rg.aW Oper.wp
 go_simp
 clear c0 c1 f0 f1 U2;generalize ((wy.setCell ⟨g8,0,none⟩ (.bool E7)).setCell ⟨g8,1,none⟩ (.slice a33 E5 Eg))=wf at *;have y0:=Z5.box.c0;have y1:=Z5.box.c1;have y2:=U3.box.c0;have y3:=U3.box.c1;obtain rfl:=D1.out
 go_wp2_with (first | (go_at_call 156;(with_reducible refine (P9.out _ _ _ _ _ oz5.out oS.out).mono ?_);rintro e w6 ⟨v6,rfl,FO,hb6⟩;obtain ⟨a6,k6,rfl,Mk,hv6⟩:=aF.view FO;clear Mk hv6;have AC:=(show aF _ _ _ _ from FO)) | (go_at_call 157;(with_reducible refine (PA.out _ _ _ AC).mono ?_);rintro e w7 ⟨v7,rfl,At,yh⟩;obtain ⟨a7,k7,rfl,hm7,hv7⟩:=aF.view At;clear hm7 hv7;have R7:=(R5.keep hb6).keep yh;(have ⟨c0,c1,f0,f1,_⟩:=R7.box)))
 generalize decide (F<0)=s7,(Wh.d_ F.natAbs).length=l7 at *;have Mb:=HB.trans ((hb6.mono HB.size).trans (yh.mono (Nat.le_trans HB.size hb6.size)));have hr1:=aF.base (aF.bF At R7 (by decide) (.bool s7) (.slice a7 l7 k7)) (show w.heap.size≤w6.heap.size from Nat.le_trans HB.size hb6.size);have hr2:Below w.heap.size w ((w7.setCell ⟨w.heap.size+1+1,0,none⟩ (.bool s7)).setCell ⟨w.heap.size+1+1,1,none⟩ (.slice a7 l7 k7)):=yL (yL Mb (by simp <;> omega) _) (by simp <;> omega) _;exact bodyPost_ret (v:=.agg #[.bool s7,.slice a7 l7 k7]) (by simp [results,Tryz.results143,go_sem, *]) rfl (⟨_,rfl,hr1,hr2⟩)
end
end Go.Proofs.YtgfkcoablfjbcaaGreat
