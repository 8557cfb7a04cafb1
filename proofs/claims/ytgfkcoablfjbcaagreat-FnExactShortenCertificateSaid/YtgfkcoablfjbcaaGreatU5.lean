/-
  Joined texts: contracts and plain lemmas.
-/
import Derived.Test.YtgfkcoablfjbcaaGreatU1
import Derived.Test.YtgfkcoablfjbcaaGreatU4
set_option linter.unusedSimpArgs false
set_option linter.unusedVariables false
set_option maxRecDepth 100000
set_option maxHeartbeats 8000000
namespace Go.Proofs.YtgfkcoablfjbcaaGreat
section
open Go Go.RowKit
namespace Rg
variable {P:Program} {Q:Exit→Act→World→Prop} {md:Region.Mode}
def E8 (md:Region.Mode) (ops:Array Oper):Nat→Nat→Nat→Bool
 | 0,_,_=>false
 | f+1,i,j=>match ops[i]? with
  | some o=>o.after.toList.any (fun e=>Region.binds md e && e.on == j) || o.after.toList.any (fun e=>Region.binds md e && E8 md ops f e.on j)
  | none=>false
def io (md:Region.Mode) (ops:Array Oper) (n0:Nat):Bool:=decide (n0≤ops.size) && (List.range ops.size).all fun i=>decide (i<n0) || ((match ops[i]? with | some o=>o.guard.isNone | none=>true) && (List.range i).all fun j=>E8 md ops 3 i j)
def aX (P:Program) (Q:Exit→Act→World→Prop):List Oper→Act→World→Prop
 | [],a,w=>Q .normal a w
 | o :: os,a,w=>o.wp P a w (fun a' w'=>aX P Q os a' w') Q
theorem jj {ops:Array Oper} {L:Array Bool} (hdc:∀ i o,ops[i]?=some o→L.getD i false=true→∀ e ∈ o.after,Region.binds md e=true→L.getD e.on false=true):∀ (f i j:Nat) (o:Oper),ops[i]?=some o→
  (∀ e ∈ o.after,Region.binds md e=true→L.getD e.on false=true)→E8 md ops f i j=true→L.getD j false=true
 | 0,_,_,_,_,_,h=>by simp [E8] at h
 | f+1,i,j,o,ho,hd,h=>by
  unfold E8 at h;rw [ho] at h;simp only [Bool.or_eq_true,List.any_eq_true,Bool.and_eq_true,beq_iff_eq] at h
  rcases h with ⟨e,he,hb,rfl⟩ | ⟨e,he,hb,ha⟩
  ·exact hd e (Array.mem_toList_iff.1 he) hb
  have hde:=hd e (Array.mem_toList_iff.1 he) hb
  cases ho2:ops[e.on]? with
  | none=>
   exfalso
   cases f with
   | zero=>simp [E8] at ha
   | succ f=>unfold E8 at ha;rw [ho2] at ha;exact absurd ha (by simp)
  | some o2=>exact jj hdc f e.on j o2 ho2 (hdc e.on o2 ho2 hde) ha
theorem lY {ops:Array Oper} {n0:Nat} (ht:io md ops n0=true):n0≤ops.size∧∀ i,i<ops.size→n0≤i→(∀ o,ops[i]?=some o→o.guard=none)∧∀ j,j<i→E8 md ops 3 i j=true:=by
 rw [io,Bool.and_eq_true] at ht;refine ⟨of_decide_eq_true ht.1,fun i hi hn=>?_⟩;have:=List.all_eq_true.1 ht.2 i (List.mem_range.2 hi);simp only [Bool.or_eq_true,decide_eq_true_eq,Bool.and_eq_true,List.all_eq_true,List.mem_range] at this
 rcases this with q | ⟨q1,q2⟩
 ·omega
 refine ⟨fun o ho=>?_,q2⟩;rw [ho] at q1;exact Option.isNone_iff_eq_none.1 q1
theorem qM {L:Array Bool} {i:Nat} (h:i<L.size):L.getD i true=L.getD i false:=by
 simp only [Array.getD_eq_getD_getElem?];rw [Array.getElem?_eq_getElem h];rfl
theorem pk {ops:Array Oper} {n0:Nat} (ht:io md ops n0=true) (hac:∀ i o,ops[i]?=some o→∀ e ∈ o.after,Region.binds md e=true→e.on<i) :
  ∀ (fuel:Nat) (L:Array Bool) (a:Act) (w:World) (k:Nat),n0≤k→k≤ops.size→L.size=ops.size→(∀ j,j<ops.size→L.getD j false=decide (j<k))→
  ops.size - k≤fuel→aX P Q (ops.toList.drop k) a w→wpAny P md ops Q fuel L a w:=by
 obtain ⟨-,htl⟩:=lY ht
 have H8:∀ (L:Array Bool) (k:Nat),n0≤k→(∀ j,j<ops.size→L.getD j false=decide (j<k))→L.size=ops.size→∀ i,i ∈ Region.ready md ops L→i=k∧i<ops.size:=by
  intro L k hk hL hsz i hi;obtain ⟨hun,o,ho,Cq⟩:=mem_ready.1 hi;have hilt:i<ops.size:=(Array.getElem?_eq_some_iff.1 ho).1;rw [qM (by omega),hL i hilt,decide_eq_false_iff_not] at hun;refine ⟨?_,hilt⟩
  rcases Nat.lt_or_ge k i with q | q
  ·exfalso
   have hdc:∀ i o,ops[i]?=some o→L.getD i false=true→∀ e ∈ o.after,Region.binds md e=true→L.getD e.on false=true:=by
    intro i' o' ho' hl' e he hb;have hi':i'<ops.size:=(Array.getElem?_eq_some_iff.1 ho').1;rw [hL i' hi',decide_eq_true_eq] at hl';have:=hac i' o' ho' e he hb;rw [hL e.on (by omega),decide_eq_true_eq];omega
   have:=jj hdc 3 i k o ho Cq ((htl i hilt (by omega)).2 k q);rw [hL k (by omega),decide_eq_true_eq] at this;omega
  omega
 have hend:∀ (L:Array Bool) (a:Act) (w:World) (k:Nat),n0≤k→k≤ops.size→L.size=ops.size→(∀ j,j<ops.size→L.getD j false=decide (j<k))→aX P Q (ops.toList.drop k) a w→Region.ready md ops L=[]→Q .normal a w:=by
  intro L a w k hk hk2 hsz hL h hr
  have hks:k=ops.size:=by
   rcases Nat.lt_or_ge k ops.size with q | q
   ·exfalso
    have hm:k ∈ Region.ready md ops L:=by
     refine mem_ready.2 ⟨?_,_,Array.getElem?_eq_getElem q,fun e he hb=>?_⟩
     ·rw [qM (by omega),hL k q]
      simp
     have:=hac k _ (Array.getElem?_eq_getElem q) e he hb;rw [hL e.on (by omega),decide_eq_true_eq];exact this
    rw [hr] at hm;cases hm
   omega
  subst hks;rw [List.drop_eq_nil_of_le (by simp)] at h;exact h
 intro fuel
 induction fuel with
 | zero=>
  intro L a w k hk hk2 hsz hL hf h
  have hr:Region.ready md ops L=[]:=by
   rw [List.eq_nil_iff_forall_not_mem];intro i hi;have:=H8 L k hk hL hsz i hi;omega
  exact ⟨hr,hend L a w k hk hk2 hsz hL h hr⟩
 | succ fuel ih=>
 intro L a w k hk hk2 hsz hL hf h;refine ⟨hend L a w k hk hk2 hsz hL h,fun i hi=>?_⟩;obtain ⟨rfl,hilt⟩:=H8 L k hk hL hsz i hi;have ho:ops[i]?=some ops[i]:=Array.getElem?_eq_getElem hilt
 have hdr:ops.toList.drop i=ops[i] :: ops.toList.drop (i+1):=by
  rw [List.drop_eq_getElem_cons (by simpa using hilt)];simp
 rw [hdr] at h;unfold wpOp;rw [ho]
 dsimp only
 have hg:=(htl i hilt hk).1 _ ho
 have hw:Region.wanted ops[i] (yielded ops a.tmps)=true:=by
  unfold Region.wanted;rw [hg]
 rw [if_pos hw];refine Or.inl (Oper.wp_mono ?_ h);intro a' w' h';refine ih _ a' w' (i+1) (by omega) (by omega) (by simpa using hsz) (fun j hj=>?_) (by omega) h';simp only [Array.getD_eq_getD_getElem?]
 by_cases hji:j=i
 ·subst hji
  rw [Array.getElem?_setIfInBounds_self_of_lt (by omega)];simp
 rw [Array.getElem?_setIfInBounds_ne (fun e=>hji e.symm)];have:=hL j hj;simp only [Array.getD_eq_getD_getElem?] at this;rw [this,decide_eq_decide];omega
theorem qQ {l:Nat→Bool} {k:Nat}:∀ n:Nat,(∀ j,j<n→l j=decide (j<k))→left l n=n - min k n
 | 0,_=>by simp [left]
 | n+1,h=>by
  unfold left;rw [qQ n (fun j hj=>h j (by omega)),h n (by omega)]
  by_cases q:n<k
  ·rw [decide_eq_true q,if_pos rfl]
   omega
  rw [decide_eq_false q,if_neg (by decide)];omega
theorem iS {l:Nat→Bool} {v:Nat→Value}:∀ (os:List Oper) (k m:Nat) (a:Act),(∀ j,k≤j→j<k+os.length→l j=decide (j<k+m))→fill l v os k a=fill (fun _=>true) v (os.take m) k a
 | [],k,m,a,_=>by rw [List.take_nil];rfl
 | o :: os,k,0,a,h=>by
  rw [List.take_zero];unfold fill
  rw [h k (yM _) (by simp),decide_eq_false (by omega),if_neg (by decide),iS os (k+1) 0 a (fun j h1 h2=>by
   rw [h j (by omega) (by simp;omega),decide_eq_decide]
   omega),List.take_zero]
  rfl
 | o :: os,k,m+1,a,h=>by
  rw [List.take_succ_cons];unfold fill;rw [h k (yM _) (by simp),decide_eq_true (by omega),if_pos rfl]
  exact iS os (k+1) m _ fun j h1 h2=>by
   rw [h j (by omega) (by simp;omega),decide_eq_decide];omega
section
variable (P) (Q) (md) (ops:Array Oper) (S:World→Prop) (V:Nat→Value→World→Prop) (a0:Act) (fr:Nat→Bool)
def sU (i:Nat) (o:Oper) (a:Act) (w:World):Prop:=
 if Region.wanted o (yielded ops a.tmps)=true then o.wp P a w (fun a' w'=>∃ v,a'=a.put o.dst v∧V i v w'∧S w'∧(∀ j u,V j u w→V j u w')∧(fr i=true→∀ j u,fr j=true→V j u w→u≠v)) Q else V i undef w∧fr i=false
def wQ (i:Nat) (o:Oper):Prop:=∀ (a:Act) (w:World) (vals:Nat→Value),S w→(∀ e ∈ o.after,Region.binds md e=true→V e.on (vals e.on) w)→(∀ t ∈ o.looksAt ops,a.tmps[t]?=rd md ops a0 vals o t)→sU P Q ops S V fr i o a w
def jh:List Oper→Nat→Prop
 | [],_=>True
 | o :: os,k=>wQ P Q md ops S V a0 fr k o∧jh os (k+1)
theorem jh.at {os:List Oper} {k:Nat} (h:jh P Q md ops S V a0 fr os k):∀ {i:Nat} {o:Oper},os[i]?=some o→wQ P Q md ops S V a0 fr (k+i) o:=by
 induction os generalizing k with
 | nil=>intro i o hi;simp at hi
 | cons x os ih=>
 intro i o hi
 cases i with
 | zero=>
  simp only [List.getElem?_cons_zero,Option.some.injEq] at hi;subst hi;exact h.1
 | succ i=>
 have:=ih h.2 (i:=i) (o:=o) (by simpa using hi);rw [show k+(i+1)=k+1+i from by omega];exact this
def xO (L:Array Bool) (a:Act) (w:World):Prop:=
 L.size=ops.size∧S w∧(∀ i o,ops[i]?=some o→L.getD i false=true→∀ e ∈ o.after,Region.binds md e=true→L.getD e.on false=true)∧
 ∃ vals:Nat→Value,a=fill (fun j=>L.getD j false) vals ops.toList 0 a0∧(∀ i,i<ops.size→L.getD i false=true→V i (vals i) w)∧
  ∀ i j,i<ops.size→j<ops.size→L.getD i false=true→L.getD j false=true→i≠j→fr i=true→fr j=true→vals i≠vals j
end
theorem sJ {ops:Array Oper} {S:World→Prop} {V:Nat→Value→World→Prop} {a0:Act} {n0:Nat} {fr:Nat→Bool} (hok:eN md ops a0.tmps.size=true) (ht:io md ops n0=true)
  (hR:jh P Q md ops S V a0 fr (ops.toList.take n0) 0) (hF:∀ (vals:Nat→Value) (w:World),S w→(∀ i,i<n0→V i (vals i) w)→(∀ i j,i<n0→j<n0→i≠j→fr i=true→fr j=true→vals i≠vals j)→aX P Q (ops.toList.drop n0) (fill (fun _=>true) vals (ops.toList.take n0) 0 a0) w) :
  ∀ (fuel:Nat) (L:Array Bool) (a:Act) (w:World),left (fun j=>L.getD j false) ops.size≤fuel→(∀ i,i<ops.size→L.getD i false=true→i<n0)→xO md ops S V a0 fr L a w→wpAny P md ops Q fuel L a w:=by
 obtain ⟨hn0,hta⟩:=lY ht;rw [eN,Bool.and_eq_true,Bool.and_eq_true] at hok;obtain ⟨⟨hap,hrd⟩,hac⟩:=hok
 have Au:∀ i o,ops[i]?=some o→(∀ e ∈ o.after,Region.binds md e=true→e.on<i)∧∀ d,o.dst=some d→d<a0.tmps.size:=fun i o hi=>by
  have hlt:i<ops.size:=(Array.getElem?_eq_some_iff.1 hi).1;have:=List.all_eq_true.1 hac i (List.mem_range.2 hlt);rw [hi] at this;simp only [Bool.and_eq_true,List.all_eq_true,Bool.or_eq_true,Bool.not_eq_true',decide_eq_true_eq] at this;refine ⟨fun e he hb=>?_,fun d hd=>?_⟩
  ·rcases this.1 e (Array.mem_toList_iff.2 he) with q | q
   ·rw [hb] at q;cases q
   exact q
  have:=this.2;rw [hd] at this
  simpa using this
 have htl:∀ i,ops.toList[i]?=ops[i]?:=fun i=>Array.getElem?_toList
 have hall:∀ L:Array Bool,L.size=ops.size→Region.ready md ops L=[]→∀ i,i<ops.size→L.getD i false=true:=by
  intro L hL hr i
  induction i using Nat.strongRecOn with
  | ind i ih=>
  intro hi
  cases hl:L.getD i false
  ·exfalso
   have hm:i ∈ Region.ready md ops L:=by
    unfold Region.ready;rw [List.mem_filter];refine ⟨List.mem_range.2 hi,?_⟩
    have hg:L.getD i true=false:=by
     rw [Array.getD_eq_getD_getElem?,Array.getElem?_eq_getElem (by omega)] at hl ⊢;exact hl
    rw [hg,Array.getElem?_eq_getElem hi];simp only [Bool.not_false,Bool.true_and,Option.map_some,Option.getD_some];rw [Array.all_eq_true_iff_forall_mem];intro e he
    cases hb:Region.binds md e
    ·rfl
    have hlt:=(Au i _ (Array.getElem?_eq_getElem hi)).1 e he hb;simp [ih e.on hlt (by omega)]
   rw [hr] at hm;cases hm
  rfl
 have hdone:∀ (fuel:Nat) (L:Array Bool) (a:Act) (w:World),left (fun j=>L.getD j false) ops.size≤fuel→(∀ i,i<ops.size→L.getD i false=true→i<n0)→xO md ops S V a0 fr L a w→(∀ j,j<n0→L.getD j false=true)→wpAny P md ops Q fuel L a w:=by
  rintro fuel L a w hl hb ⟨hL,hS,hdc,vals,rfl,hv,hfr⟩ hj
  have L2:∀ j,j<ops.size→L.getD j false=decide (j<n0):=fun j hjs=>by
   by_cases q:j<n0
   ·rw [hj j q,decide_eq_true q]
   rw [decide_eq_false q]
   cases hc:L.getD j false
   ·rfl
   exact absurd (hb j hjs hc) q
  rw [qQ (k:=n0) ops.size L2] at hl;refine pk ht (fun i o hi=>(Au i o hi).1) fuel L _ w n0 (yM _) hn0 hL L2 (by omega) ?_;rw [iS (l:=fun j=>L.getD j false) (m:=n0) ops.toList 0 a0 (fun j _ h2=>by rw [Nat.zero_add];exact L2 j (by simpa using h2))]
  exact hF vals w hS (fun i hi=>hv i (by omega) (hj i hi)) fun i j hi hj' hne=>hfr i j (by omega) (by omega) (hj i hi) (hj j hj') hne
 intro fuel
 induction fuel with
 | zero=>
  intro L a w hl hb hI;have hz:=gJ _ (Nat.le_zero.1 hl);exact hdone 0 L a w hl hb hI (fun j hj=>hz j (by omega))
 | succ fuel ih=>
 intro L a w hl hb hI
 by_cases hj:∀ j,j<n0→L.getD j false=true
 ·exact hdone _ L a w hl hb hI hj
 refine ⟨fun hr=>absurd (fun j hjn=>hall L hI.1 hr j (by omega)) hj,fun i hi=>?_⟩;obtain ⟨hL,hS,hdc,vals,rfl,hv,hfr⟩:=hI;obtain ⟨hun,o,ho,Cq⟩:=mem_ready.1 hi;have hilt:i<ops.size:=(Array.getElem?_eq_some_iff.1 ho).1
 have hin:i<n0:=by
  rcases Nat.lt_or_ge i n0 with q | q
  ·exact q
  exact absurd (fun j hjn=>jj hdc 3 i j o ho Cq ((hta i hilt q).2 j (by omega))) hj
 have hun':L.getD i false=false:=by
  simp only [Array.getD_eq_getD_getElem?] at hun ⊢;rw [Array.getElem?_eq_getElem (by omega)] at hun ⊢;exact hun
 have hq:=jh.at P Q md ops S V a0 fr hR (i:=i) (o:=o) (by rw [List.getElem?_take_of_lt hin,htl];exact ho);rw [Nat.zero_add] at hq
 have hst:=hq (fill (fun j=>L.getD j false) vals ops.toList 0 a0) w vals hS
  (fun e he hb=>hv e.on (by have:=(Au i o ho).1 e he hb;omega) (Cq e he hb))
  (fun t ht=>by
   unfold rd
   have hr1:gq md ops i o t=true:=by
    have:=List.all_eq_true.1 hrd i (List.mem_range.2 hilt);rw [ho] at this;exact List.all_eq_true.1 this t ht
   cases hf:o.after.toList.find? (fun e=>Region.binds md e && ((ops[e.on]?).bind (·.dst)) == some t) with
   | some e=>
    have h1:=List.find?_some hf;have h2:=List.mem_of_find?_eq_some hf;rw [Bool.and_eq_true,beq_iff_eq] at h1;obtain ⟨x,hx,hxd⟩:=Option.bind_eq_some_iff.1 h1.2;have h3:=Cq e (Array.mem_toList_iff.1 h2) h1.1;have:=jL (l:=fun j=>L.getD j false) (v:=vals) ops.toList 0 e.on x a0 hap (by rw [htl];exact hx) (by simpa using h3) hxd ((Au e.on x hx).2 t hxd);rw [Nat.zero_add] at this;exact this
   | none=>
   refine eK ops.toList 0 a0 fun j x hx hlj hxd=>?_
   rw [Nat.zero_add] at hlj;rw [htl] at hx;have hjlt:j<ops.size:=(Array.getElem?_eq_some_iff.1 hx).1;rw [gq,Bool.or_eq_true] at hr1
   rcases hr1 with q | q
   ·obtain ⟨e,he,hp⟩:=List.any_eq_true.1 q
    have:=List.find?_eq_none.1 hf e he;exact this hp
   have:=List.all_eq_true.1 q j (List.mem_range.2 hjlt);rw [hx] at this;simp only [Bool.or_eq_true,bne_iff_ne,ne_eq,beq_iff_eq,List.any_eq_true,Bool.and_eq_true] at this
   rcases this with (q1 | q1) | ⟨e,he,hb,hon⟩
   ·exact q1 hxd
   ·subst q1
    rw [hun'] at hlj;cases hlj
   have:=hdc j x hx hlj e (Array.mem_toList_iff.1 he) hb;rw [hon,hun'] at this
   cases this)
 have hnext:∀ (v:Value) (w':World),V i v w'→S w'→(∀ j u,V j u w→V j u w')→(fr i=true→∀ j u,fr j=true→V j u w→u≠v)→wpAny P md ops Q fuel (L.setIfInBounds i true) ((fill (fun j=>L.getD j false) vals ops.toList 0 a0).put o.dst v) w':=by
  intro v w' h1 h2 h3 h4
  have e1:∀ j,(L.setIfInBounds i true).getD j false=if j=i then true else L.getD j false:=fun j=>by
   simp only [Array.getD_eq_getD_getElem?]
   by_cases hji:j=i
   ·subst hji
    rw [Array.getElem?_setIfInBounds_self_of_lt (by omega)];simp
   rw [Array.getElem?_setIfInBounds_ne (fun e=>hji e.symm),if_neg hji]
  refine ih _ _ _ ?_ (fun j hjs hlj=>by rw [e1] at hlj;split at hlj <;> first | omega | exact hb j hjs hlj) ⟨by simpa using hL,h2,?_,fun j=>if j=i then v else vals j,?_,?_,?_⟩
  ·have:=iE (l:=fun j=>L.getD j false) (l':=fun j=>(L.setIfInBounds i true).getD j false) hun' (by rw [e1,if_pos rfl]) (fun j hj=>by rw [e1,if_neg hj]) ops.size hilt
   omega
  ·intro j x hx hlj e he hb
   rw [e1] at hlj ⊢
   split
   ·rfl
   split at hlj
   ·rename_i hji
    subst hji;rw [ho] at hx;cases hx
    exact Cq e he hb
   exact hdc j x hx hlj e he hb
  ·rw [iB ops.toList 0 i o a0 hap (by rw [htl];exact ho) (by simpa using hun')]
   rw [Nat.zero_add];exact cI _ _ _ (fun j _ _=>(e1 j).symm) (fun _ _ _=>rfl)
  ·intro j hj hlj
   rw [e1] at hlj
   show V j (if j=i then v else vals j) w'
   split
   ·rename_i hji
    rw [hji];exact h1
   rename_i hji
   rw [if_neg hji] at hlj;exact h3 _ _ (hv j hj hlj)
  intro j k hj hk hlj hlk hne fj fk;rw [e1] at hlj hlk
  show (if j=i then v else vals j)≠(if k=i then v else vals k)
  split at hlj
  ·rename_i hji
   subst hji;rw [if_pos rfl,if_neg (fun e=>hne e.symm)];rw [if_neg (fun e=>hne e.symm)] at hlk
   exact fun e=>h4 fj k (vals k) fk (hv k hk hlk) e.symm
  rename_i hji
  rw [if_neg hji]
  split at hlk
  ·rename_i hki
   rw [if_pos hki];subst hki;exact h4 fk j (vals j) fj (hv j hj hlj)
  rename_i hki
  rw [if_neg hki];exact hfr j k hj hk hlj hlk hne fj fk
 unfold wpOp;rw [ho];unfold sU at hst
 dsimp only
 split at hst
 ·rename_i hw
  rw [if_pos hw];refine Or.inl (Oper.wp_mono ?_ hst);rintro a' w' ⟨v,rfl,h1,h2,h3,h4⟩;exact hnext v w' h1 h2 h3 h4
 rename_i hw
 rw [if_neg hw]
 exact hnext undef w hst.1 hS (fun _ _ h=>h) fun e=>by rw [hst.2] at e;cases e
theorem vR {id:Nat} {ops:Array Oper} {a0:Act} {w:World} {n0:Nat} (fr:Nat→Bool) (S:World→Prop) (V:Nat→Value→World→Prop) (hm:P.follows .mixedOrders=true) (hok:eN .any ops a0.tmps.size=true) (ht:io .any ops n0=true)
  (hS:S { w with drawn:=w.drawn+1 }) (hR:jh P Q .any ops S V a0 fr (ops.toList.take n0) 0)
  (hF:∀ (vals:Nat→Value) (w:World),S w→(∀ i,i<n0→V i (vals i) w)→(∀ i j,i<n0→j<n0→i≠j→fr i=true→fr j=true→vals i≠vals j)→aX P Q (ops.toList.drop n0) (fill (fun _=>true) vals (ops.toList.take n0) 0 a0) w):(Code.region id ops true).wp P Q a0 w:=by
 have rep:∀ j,(Array.replicate ops.size false).getD j false=false:=fun j=>by
  rw [Array.getD_eq_getD_getElem?,Array.getElem?_replicate]
  split <;> rfl
 refine wp_region_any hm (sJ hok ht hR hF _ _ _ _ ?_ (fun i _ hl=>by rw [rep] at hl;cases hl) ⟨by simp,hS,?_,fun _=>undef,?_,?_,?_⟩)
 ·have:∀ (l:Nat→Bool) n,left l n≤n:=fun l n=>by
   induction n with
   | zero=>exact yM _
   | succ n ih=>unfold left;split <;> omega
  exact this _ _
 ·intro i o hi hl
  rw [rep] at hl;cases hl
 ·have:∀ (v:Nat→Value) (os:List Oper) (k:Nat) (a:Act),fill (fun _=>false) v os k a=a:=fun v os=>by
   induction os with
   | nil=>intro k a;rfl
   | cons x os ih=>intro k a;unfold fill;simp [ih]
  refine (this _ ops.toList 0 a0).symm.trans (cI _ _ _ (fun j _ hj=>(rep j).symm) (fun _ _ _=>rfl))
 ·intro i hi hl
  rw [rep] at hl;cases hl
 intro i j _ _ hl;rw [rep] at hl;cases hl
def px (P:Program) (ops:Array Oper) (Q:Exit→Act→World→Prop) (a0:Act) (T:List Val) (w1:World) (i:Nat) (o:Oper):Prop:=
 match AE T i with
 | .new B Ty xs=>∀ (a:Act) (w:World),Below w1.heap.size w1 w→(∀ t ∈ o.looksAt ops,qm ops a0 T o a w t)→B≤w.heap.size∧Region.wanted o (yielded ops a.tmps)=true∧(execOp a.eval o).run P w=.ok (.value (.pointer (some ⟨w.heap.size,0,none⟩))) (w.alloc (.cells xs Ty))
 | V=>∀ (a:Act) (w:World),Below w1.heap.size w1 w→(∀ t ∈ o.looksAt ops,qm ops a0 T o a w t)→Does P ops Q V o a w
def Val.lJ:Val→Bool
 | .new _ _ _=>true
 | _=>false
def oy (P:Program) (ops:Array Oper) (Q:Exit→Act→World→Prop) (a0:Act) (T:List Val) (w1:World) (n0:Nat):List Oper→Nat→Prop
 | [],_=>True
 | o :: os,k=>(k<n0→px P ops Q a0 T w1 k o)∧oy P ops Q a0 T w1 n0 os (k+1)
theorem vS {ops:Array Oper} {a0:Act} {T:List Val} {w1:World} {k:Nat} {o:Oper} (h:px P ops Q a0 T w1 k o):wQ P Q .any ops (fun w=>Below w1.heap.size w1 w) (fun i v w=>(AE T i).ok v w) a0 (fun i=>(AE T i).lJ) k o:=by
 intro a w vals hS hv hr
 have hl:∀ t ∈ o.looksAt ops,qm ops a0 T o a w t:=fun t ht=>by
  have:=hr t ht;unfold rd at this;unfold qm
  split
  ·rename_i e he
   rw [he] at this;have h2:=List.find?_some he;rw [Bool.and_eq_true] at h2;exact ⟨_,this,hv e (Array.mem_toList_iff.1 (List.mem_of_find?_eq_some he)) h2.1⟩
  rename_i he
  rw [he] at this;exact this
 unfold sU
 dsimp only
 by_cases hn:(AE T k).lJ=true
 ·cases hT:AE T k with
  | new B Ty xs=>
   unfold px at h;rw [hT] at h;obtain ⟨h0,h1,h2⟩:=h a w hS hl;rw [if_pos h1];unfold Oper.wp;rw [h2];refine ⟨_,rfl,⟨w.heap.size,h0,rfl,?_⟩,hS.trans (((yL _ _).alloc (yM _) _).mono hS.size),fun j u hu=>Val.keep ((yL _ _).alloc (yM _) _) _ _ hu,fun _ j u hj hu=>?_⟩
   ·show (w.heap.push _)[w.heap.size]?=_
    simp
   cases hTj:AE T j with
   | new B' Ty' xs'=>
    rw [hTj] at hu;obtain ⟨g,-,rfl,hg⟩:=hu;intro e;have hlt:=(Array.getElem?_eq_some_iff.1 hg).1
    injection e with e
    injection e with e
    injection e with e
    omega
   | _=>rw [hTj] at hj;cases hj
  | _=>rw [hT] at hn;cases hn
 have h1:Does P ops Q (AE T k) o a w:=by
  unfold px at h
  split at h
  ·rename_i hT
   rw [hT] at hn;exact absurd rfl hn
  exact h a w hS hl
 unfold Does at h1
 split
 ·rename_i hw
  rw [if_pos hw] at h1;refine Oper.wp_mono ?_ h1;rintro a' w' ⟨v,e1,e2,e3⟩;exact ⟨v,e1,e2,f_ hS e3,fun j u hu=>Val.keep e3 _ _ hu,fun e=>absurd e hn⟩
 rename_i hw
 rw [if_neg hw] at h1;exact ⟨h1,by simpa using hn⟩
theorem lU {ops:Array Oper} {a0:Act} {T:List Val} {w1:World} {n0:Nat}:∀ (os:List Oper) (k m:Nat),k+m=n0→oy P ops Q a0 T w1 n0 os k→jh P Q .any ops (fun w=>Below w1.heap.size w1 w) (fun i v w=>(AE T i).ok v w) a0 (fun i=>(AE T i).lJ) (os.take m) k
 | [],_,m,_,_=>by rw [List.take_nil];trivial
 | o :: os,k,0,_,_=>by rw [List.take_zero];trivial
 | o :: os,k,m+1,h,hr=>by rw [List.take_succ_cons];exact ⟨vS (hr.1 (by omega)),lU os (k+1) m (by omega) hr.2⟩
theorem bJ {id:Nat} {ops:Array Oper} {a0:Act} {w:World} (n0:Nat) (T:List Val) (hm:P.follows .mixedOrders=true) (hok:eN .any ops a0.tmps.size=true) (ht:io .any ops n0=true)
  (hR:oy P ops Q a0 T w n0 ops.toList 0)
  (hF:∀ (vals:Nat→Value) (w':World),Below w.heap.size w w'→(∀ i,i<n0→(AE T i).ok (vals i) w')→(∀ i j,i<n0→j<n0→i≠j→(AE T i).lJ=true→(AE T j).lJ=true→vals i≠vals j)→aX P Q (ops.toList.drop n0) (fill (fun _=>true) vals (ops.toList.take n0) 0 a0) w'):(Code.region id ops true).wp P Q a0 w:=
 vR (fun i=>(AE T i).lJ) (fun w'=>Below w.heap.size w w') (fun i v w'=>(AE T i).ok v w') hm hok ht ((yL _ w).drew) (lU _ 0 n0 (Nat.zero_add _) hR) hF
theorem ag {p:Value→World→Prop} {v:Value} {w:World} (h:(Val.at p).ok v w):p v w:=h w (yL _ _)
end Rg
end
section
open Go.RowKit
def aH (W:World) (g:Nat) (T:TypeId) (xs:Array Value):Prop:=W.heap[g]?=some (.cells xs T (0,0))
namespace aH
variable {W W':World} {g:Nat} {T:TypeId} {xs:Array Value}
theorem lt (h:aH W g T xs):g<W.heap.size:=(Array.getElem?_eq_some_iff.1 h).1
theorem keep (h:aH W g T xs) (hb:Below W.heap.size W W'):aH W' g T xs:=(hb.block g h.lt).trans h
theorem new (w:World) (xs:Array Value) (T:TypeId):aH (w.alloc (.cells xs T)) w.heap.size T xs:=by
 show (w.heap.push (.cells xs T))[w.heap.size]?=_
 simp
theorem alloc (h:aH W g T xs) (o:Obj):aH (W.alloc o) g T xs:=h.keep ((yL _ _).alloc (yM _) o)
theorem drew (h:aH W g T xs):aH W.drew g T xs:=h
theorem cell (h:aH W g T xs) (i:Nat):W.cell? ⟨g,i,none⟩=xs[i]?:=by
 unfold aH at h;simp [World.cell?,h]
theorem yV (h:aH W g T xs) (i:Nat):W.frozen? ⟨g,i,none⟩=false:=by
 unfold aH at h;simp [World.frozen?,h]
theorem set (h:aH W g T xs) (i:Nat) (x:Value):aH (W.setCell ⟨g,i,none⟩ x) g T (xs.setIfInBounds i x):=by
 have hl:=h.lt;unfold aH at *;rw [World.setCell]
 show (W.heap.modify g _)[g]?=_
 rw [Array.getElem?_modify,if_pos rfl,h];rfl
theorem other (h:aH W g T xs) {k i:Nat} (hk:g≠k) (x:Value):aH (W.setCell ⟨k,i,none⟩ x) g T xs:=by
 unfold aH at *;rw [World.setCell]
 show (W.heap.modify k _)[g]?=_
 rw [Array.getElem?_modify,if_neg (fun e=>hk e.symm),h]
theorem box {u v:Value} (h:aH W g T #[u,v]):ai W g u v:=⟨h.cell 0,h.cell 1,h.yV 0,h.yV 1,h.lt⟩
theorem aM {u v x y:Value} (h:aH W g T #[u,v,x,y]):iM W g u v x y:=by
 refine ⟨h.cell 0,h.cell 1,h.cell 2,h.cell 3,h.yV 0,h.yV 1,h.yV 2,h.yV 3,h.lt⟩
theorem set2 {u v:Value} (h:aH W g T #[u,v]) (x y:Value):aH ((W.setCell ⟨g,0,none⟩ x).setCell ⟨g,1,none⟩ y) g T #[x,y]:=(h.set 0 x).set 1 y
theorem kz {u v p q:Value} (h:aH W g T #[u,v,p,q]) (x y z t:Value):aH ((((W.setCell ⟨g,0,none⟩ x).setCell ⟨g,1,none⟩ y).setCell ⟨g,2,none⟩ z).setCell ⟨g,3,none⟩ t) g T #[x,y,z,t]:=(((h.set 0 x).set 1 y).set 2 z).set 3 t
theorem b2 {u v:Value} (h:aH W g T #[u,v]):W.cell? ⟨g,0,none⟩=some u∧W.cell? ⟨g,1,none⟩=some v:=⟨h.cell 0,h.cell 1⟩
theorem zT {u v:Value} (h:aH W g T #[u,v]):W.cell? ⟨g,0,none⟩=some u∧W.cell? ⟨g,1,none⟩=some v∧W.frozen? ⟨g,0,none⟩=false∧W.frozen? ⟨g,1,none⟩=false:=⟨h.cell 0,h.cell 1,h.yV 0,h.yV 1⟩
theorem b4 {u v x y:Value} (h:aH W g T #[u,v,x,y]):W.cell? ⟨g,0,none⟩=some u∧W.cell? ⟨g,1,none⟩=some v∧W.cell? ⟨g,2,none⟩=some x∧W.cell? ⟨g,3,none⟩=some y:=⟨h.cell 0,h.cell 1,h.cell 2,h.cell 3⟩
theorem yk {u v x y:Value} (h:aH W g T #[u,v,x,y]):W.cell? ⟨g,0,none⟩=some u∧W.cell? ⟨g,1,none⟩=some v∧W.cell? ⟨g,2,none⟩=some x∧W.cell? ⟨g,3,none⟩=some y∧W.frozen? ⟨g,0,none⟩=false∧W.frozen? ⟨g,1,none⟩=false∧W.frozen? ⟨g,2,none⟩=false∧W.frozen? ⟨g,3,none⟩=false:=⟨h.cell 0,h.cell 1,h.cell 2,h.cell 3,h.yV 0,h.yV 1,h.yV 2,h.yV 3⟩
theorem one {u:Value} (h:aH W g T #[u]) (x:Value):aH (W.setCell ⟨g,0,none⟩ x) g T #[x]:=h.set 0 x
end aH
theorem bA (w:World) (o:Obj):Below w.heap.size w (w.alloc o):=(yL _ w).alloc (yM _) o
theorem ei (w:World) (xs1:Array Value) (T1:TypeId):∃ wc,w.alloc (.cells xs1 T1)=wc∧aH wc w.heap.size T1 xs1∧Below w.heap.size w wc:=
 ⟨_,rfl,aH.new w xs1 T1,bA w _⟩
theorem gW (w:World) (xs1:Array Value) (T1:TypeId) (xs2:Array Value) (T2:TypeId):∃ wc,(w.alloc (.cells xs1 T1)).alloc (.cells xs2 T2)=wc∧aH wc w.heap.size T1 xs1∧aH wc (w.heap.size+1) T2 xs2∧Below w.heap.size w wc:=by
 obtain ⟨wc,rfl,h1,hb⟩:=ei w xs1 T1;have h2:=aH.new (w.alloc (.cells xs1 T1)) xs2 T2;rw [yJ] at h2;exact ⟨_,rfl,h1.alloc _,h2,hb.alloc hb.size _⟩
theorem ou (w:World) (xs1:Array Value) (T1:TypeId) (xs2:Array Value) (T2:TypeId) (FN:Array Value) (T3:TypeId):∃ wc,((w.alloc (.cells xs1 T1)).alloc (.cells xs2 T2)).alloc (.cells FN T3)=wc∧aH wc w.heap.size T1 xs1∧aH wc (w.heap.size+1) T2 xs2∧aH wc (w.heap.size+1+1) T3 FN∧Below w.heap.size w wc:=by
 obtain ⟨wc,rfl,h1,h2,hb⟩:=gW w xs1 T1 xs2 T2;have h3:=aH.new ((w.alloc (.cells xs1 T1)).alloc (.cells xs2 T2)) FN T3;rw [yJ,yJ] at h3;exact ⟨_,rfl,h1.alloc _,h2.alloc _,h3,hb.alloc hb.size _⟩
theorem li (w:World) (xs1:Array Value) (T1:TypeId) (xs2:Array Value) (T2:TypeId) (FN:Array Value) (T3:TypeId) (Na:Array Value) (T4:TypeId):∃ wc,(((w.alloc (.cells xs1 T1)).alloc (.cells xs2 T2)).alloc (.cells FN T3)).alloc (.cells Na T4)=wc∧aH wc w.heap.size T1 xs1∧aH wc (w.heap.size+1) T2 xs2∧aH wc (w.heap.size+1+1) T3 FN∧aH wc (w.heap.size+1+1+1) T4 Na∧Below w.heap.size w wc:=by
 obtain ⟨wc,rfl,h1,h2,h3,hb⟩:=ou w xs1 T1 xs2 T2 FN T3;have h4:=aH.new (((w.alloc (.cells xs1 T1)).alloc (.cells xs2 T2)).alloc (.cells FN T3)) Na T4;rw [yJ,yJ,yJ] at h4;exact ⟨_,rfl,h1.alloc _,h2.alloc _,h3.alloc _,h4,hb.alloc hb.size _⟩
theorem aF.apart {W:World} {base g:Nat} {T:TypeId} {sl:Value} {xs:List Int} {ys:Array Value} (h:aF W base sl xs) (hv:aH W g T ys) (hT:T≠3):sl.ownBlock≠some g:=by
 intro e;obtain ⟨-,h⟩:=h
 rcases h with ⟨rfl,-⟩ | ⟨g',cap,cur,rfl,-,hh,-⟩
 ·simp [Value.ownBlock] at e
 simp only [Value.ownBlock,Option.some.injEq] at e;subst e;unfold aH at hv;rw [hv] at hh
 injection hh with hh
 injection hh with _ h2
 exact hT h2
theorem aF.dh {W:World} {base g i:Nat} {T:TypeId} {sl:Value} {xs:List Int} {ys:Array Value} (h:aF W base sl xs) (hv:aH W g T ys) (hT:T≠3) (x:Value):aF (W.setCell ⟨g,i,none⟩ x) base sl xs:=by
 refine World.ownsRow.kept (row:=some g) h ⟨rfl,rfl,rfl,by simp [go_sem],fun k hk hne=>?_⟩ (by
  cases hs:sl.ownBlock with
  | none=>exact Or.inl rfl
  | some k=>exact Or.inr fun e=>h.apart hv hT (by rw [hs];exact e))
 rw [World.setCell]
 show (W.heap.modify g _)[k]?=_
 rw [Array.getElem?_modify,if_neg (fun e=>hne (by rw [e]))]
theorem aF.bE {W:World} {base g:Nat} {T:TypeId} {sl:Value} {xs:List Int} {u v:Value} (h:aF W base sl xs) (hv:aH W g T #[u,v]) (hT:T≠3) (x y:Value):aF ((W.setCell ⟨g,0,none⟩ x).setCell ⟨g,1,none⟩ y) base sl xs:=
 (h.dh hv hT x).dh (hv.set 0 x) hT y
theorem aF.dK {W:World} {base g:Nat} {T:TypeId} {sl:Value} {xs:List Int} {u v p q:Value} (h:aF W base sl xs) (hv:aH W g T #[u,v,p,q]) (hT:T≠3) (x y z t:Value):aF ((((W.setCell ⟨g,0,none⟩ x).setCell ⟨g,1,none⟩ y).setCell ⟨g,2,none⟩ z).setCell ⟨g,3,none⟩ t) base sl xs:=
 (((h.dh hv hT x).dh (hv.set 0 x) hT y).dh ((hv.set 0 x).set 1 y) hT z).dh (((hv.set 0 x).set 1 y).set 2 z) hT t
theorem kO {w w':World} {base:Nat} {sl:Value} {xs:List Int} (h:Hid (aF w base sl xs)) (hb:Below w.heap.size w w'):Hid (aF w' base sl xs):=yI (aF.below h.out hb)
theorem sO {W:World} {base g:Nat} {T:TypeId} {sl:Value} {xs:List Int} {u v:Value} (h:Hid (aF W base sl xs)) (hv:aH W g T #[u,v]) (hT:T≠3) (x y:Value):Hid (aF ((W.setCell ⟨g,0,none⟩ x).setCell ⟨g,1,none⟩ y) base sl xs):=yI (h.out.bE hv hT x y)
def aJ (base:Nat) (z:Int) (v:Value) (W:World):Prop:=∃ sl,v=.agg #[.bool (decide (z<0)),sl]∧aF W base sl (Wh.d_ z.natAbs)
theorem aJ.view {base:Nat} {z:Int} {v:Value} {W:World} (h:aJ base z v W):∃ (s:Bool) (a:Option Addr) (l c:Nat),Hid (s=decide (z<0))∧v=.agg #[.bool s,.slice a l c]∧aF W base (.slice a l c) (Wh.d_ z.natAbs):=by
 obtain ⟨sl,rfl,ho⟩:=h;obtain ⟨a,c,rfl,-,-⟩:=aF.view ho;exact ⟨_,a,_,c,yI rfl,rfl,ho⟩
theorem aJ.Ja {base k:Nat} {z:Int} {sl:Value} {W:World} (h:aF W k sl (Wh.d_ z.natAbs)) (hk:base≤k):(Rg.Val.at (aJ base z)).ok (.agg #[.bool (decide (z<0)),sl]) W:=fun _ hb=>⟨sl,rfl,(aF.below h hb).base hk⟩
theorem aJ.at {base k:Nat} {z:Int} {sl:Value} {W:World} (h:ah W k sl z) (hk:base≤k):(Rg.Val.at (aJ base z)).ok (.agg #[.bool (decide (z<0)),sl]) W:=aJ.Ja h hk
def uf (base:Nat) (z r:Int) (v:Value) (W:World):Prop:=∃ sl,v=.tuple #[.agg #[.bool (decide (z<0)),sl],.int .i64 r]∧aF W base sl (Wh.d_ z.natAbs)
theorem uf.view {base:Nat} {z r:Int} {v:Value} {W:World} (h:uf base z r v W):∃ (s:Bool) (a:Option Addr) (l c:Nat),Hid (s=decide (z<0))∧v=.tuple #[.agg #[.bool s,.slice a l c],.int .i64 r]∧aF W base (.slice a l c) (Wh.d_ z.natAbs):=by
 obtain ⟨sl,rfl,ho⟩:=h;obtain ⟨a,c,rfl,-,-⟩:=aF.view ho;exact ⟨_,a,_,c,yI rfl,rfl,ho⟩
theorem uf.at {base k:Nat} {z r:Int} {sl:Value} {W:World} (h:ah W k sl z) (hk:base≤k):(Rg.Val.at (uf base z r)).ok (.tuple #[.agg #[.bool (decide (z<0)),sl],.int .i64 r]) W:=fun _ hb=>⟨sl,rfl,(aF.below h hb).base hk⟩
def cF (base:Nat) (zs:List Int) (v:Value) (W:World):Prop:=∃ g,v=.slice (some ⟨g,0,none⟩) zs.length zs.length∧b8 W g zs
inductive bf (W:World):List Int→List Value→Prop where
 | nil:bf W [] []
 | cons {z:Int} {zs:List Int} {s:Bool} {a:Option Addr} {l c b:Nat} {us:List Value} (hs:s=decide (z<0)) (ho:aF W b (.slice a l c) (Wh.d_ z.natAbs)) (h:bf W zs us):bf W (z :: zs) (.bool s :: .slice a l c :: us)
theorem bf.get {W:World}:∀ {zs:List Int} {us:List Value},bf W zs us→∀ (k:Nat) (z:Int),zs[k]?=some z→∃ (a:Option Addr) (cap:Nat),us[k*2]?=some (.bool (decide (z<0)))∧us[k*2+1]?=some (.slice a (Wh.d_ z.natAbs).length cap)∧aF W 0 (.slice a (Wh.d_ z.natAbs).length cap) (Wh.d_ z.natAbs)
 | _,_,.nil,k,z,h=>by simp at h
 | _,_,.cons (l:=l) hs ho hr,0,z,h=>by
  simp only [List.getElem?_cons_zero,Option.some.injEq] at h;subst h;subst hs;obtain ⟨a',c',e,-,-⟩:=aF.view ho
  injection e with e1 e2 e3
  subst e1 e2 e3;exact ⟨_,_,rfl,rfl,ho.base (Nat.zero_le _)⟩
 | _,_,.cons hs ho hr,k+1,z,h=>by
  obtain ⟨a,cap,h1,h2,h3⟩:=hr.get k z (by simpa using h);refine ⟨a,cap,?_,?_,h3⟩
  ·rw [show (k+1)*2=k*2+1+1 by omega];simpa using h1
  rw [show (k+1)*2+1=k*2+1+1+1 by omega];simpa using h2
theorem cF.at {base:Nat} {zs:List Int} {us:List Value} {W:World} {T:TypeId} {n:Nat} (hb:base≤W.heap.size) (h:bf W zs us) (hn:n=zs.length):(Rg.Val.at (cF base zs)).ok (.slice (some ⟨W.heap.size,0,none⟩) n n) (W.alloc (.cells us.toArray T)):=by
 subst hn
 refine fun w' hb'=>⟨W.heap.size,rfl,fun k z hz=>?_⟩
 obtain ⟨a,cap,h1,h2,h3⟩:=h.get k z hz;have hv:=(aH.new W us.toArray T).keep hb';refine ⟨a,cap,(hv.cell _).trans (by simpa using h1),(hv.cell _).trans (by simpa using h2),aF.below (aF.alloc h3 _) hb'⟩
def xT (base:Nat) (T:TypeId) (xs:Array Value) (v:Value) (W:World):Prop:=∃ g,base≤g∧v=.pointer (some ⟨g,0,none⟩)∧aH W g T xs
theorem xT.at {base:Nat} {T:TypeId} {xs:Array Value} {W:World} (hb:base≤W.heap.size):(Rg.Val.at (xT base T xs)).ok (.pointer (some ⟨W.heap.size,0,none⟩)) (W.alloc (.cells xs T)):=
 fun _ hb'=>⟨_,hb,rfl,(aH.new W xs T).keep hb'⟩
theorem Rg.xE {P:Program} {Q:Exit→Act→World→Prop} {ops:Array Oper} {o:Oper} {a:Act} {w:World} {x:Value} {V:Rg.Val} (hw:Region.wanted o (yielded ops a.tmps)=true) (h:(execOp a.eval o).run P w=.ok (.value x) w) (hV:V.ok x w):Rg.Does P ops Q V o a w:=by
 unfold Rg.Does;rw [if_pos hw];unfold Oper.wp;rw [h];exact ⟨x,rfl,hV,yL _ _⟩
theorem oj (w3:World) (n:Nat) (hn:w3.heap.size=n) (u v x y:Value) (T:TypeId) :
  (∃ gx gz,n≤gx∧n≤gz∧Value.pointer (some ⟨n,0,none⟩)=.pointer (some ⟨gx,0,none⟩)∧Value.pointer (some ⟨n+1,0,none⟩)=.pointer (some ⟨gz,0,none⟩)∧aH ((w3.alloc (.cells #[u,v] T)).alloc (.cells #[x,y] T)).drew gx T #[u,v]∧aH ((w3.alloc (.cells #[u,v] T)).alloc (.cells #[x,y] T)).drew gz T #[x,y]∧Below n w3 ((w3.alloc (.cells #[u,v] T)).alloc (.cells #[x,y] T)).drew)∧
  (∃ gx gz,n≤gx∧n≤gz∧Value.pointer (some ⟨n+1,0,none⟩)=.pointer (some ⟨gx,0,none⟩)∧Value.pointer (some ⟨n,0,none⟩)=.pointer (some ⟨gz,0,none⟩)∧aH ((w3.alloc (.cells #[u,v] T)).alloc (.cells #[x,y] T)).drew gx T #[x,y]∧aH ((w3.alloc (.cells #[u,v] T)).alloc (.cells #[x,y] T)).drew gz T #[u,v]∧Below n w3 ((w3.alloc (.cells #[u,v] T)).alloc (.cells #[x,y] T)).drew):=by
 subst hn;have h1:aH ((w3.alloc (.cells #[u,v] T)).alloc (.cells #[x,y] T)).drew w3.heap.size T #[u,v]:=(aH.new w3 #[u,v] T).alloc _
 have h2:aH ((w3.alloc (.cells #[u,v] T)).alloc (.cells #[x,y] T)).drew (w3.heap.size+1) T #[x,y]:=by
  have:=aH.new (w3.alloc (.cells #[u,v] T)) #[x,y] T;rw [yJ] at this;exact this
 have hb:Below w3.heap.size w3 ((w3.alloc (.cells #[u,v] T)).alloc (.cells #[x,y] T)).drew:=(((yL _ _).alloc (yM _) _).alloc (by rw [yJ];omega) _).drew;exact ⟨⟨_,_,yM _,Nat.le_succ _,rfl,rfl,h1,h2,hb⟩,⟨_,_,Nat.le_succ _,yM _,rfl,rfl,h2,h1,hb⟩⟩
theorem gT (a b x z:Int) (vx vz:Value) (w:World) (bx bz:Nat) (hox:ah w bx vx x) (zJ:ah w bz vz z) (hx:Wh.sz x 1000) (hz:Wh.sz z 1000) (ha1:-1000≤a) (ha2:a≤1000) (hb1:-10000≤b) (hb2:b≤10000) :
  Calls Tryz.prog 169 #[.agg #[.int .i64 a,.int .i64 b],.agg #[.bool (decide (x<0)),vx,.bool (decide (z<0)),vz]] w fun e w'=>∃ sl,e=.returned (.agg #[.bool (decide (Wh.bQ a b x z<0)),sl])∧ah w' w.heap.size sl (Wh.bQ a b x z)∧Below w.heap.size w w':=by
 obtain ⟨ax,cx,rfl,-,-⟩:=aF.view hox;obtain ⟨az,cz,rfl,-,-⟩:=aF.view zJ;have hq1:Wh.sz (-2*a) 1000:=Wh.aP (Wh.bV (by omega) (by omega)) (by omega);have hq2:Wh.sz (-8*b) 1000:=Wh.aP (Wh.bV (by omega) (by omega)) (by omega);have haa:-1000000≤a*a∧a*a≤1000000:=M.aK (x:=a) (y:=a) (m:=1000) (n:=1000) (by omega) (by omega) (by omega) (by omega);have hq3:Wh.sz (a*a) 1000:=Wh.aP (Wh.bV (by omega) (by omega)) (by omega)
 have mm:∀ (l:List Int),(∀ y ∈ l,Wh.sz y 1000)→l.length≤5→∀ k,Wh.small ((l.take k).foldl (·*·) 1):=fun l h hl k=>Wh.cK (Wh.aP (Wh.iK h k) (show 1+l.length*1000≤8000 by omega)) (by omega)
 have mp:∀ (l:List Int),(∀ y ∈ l,Wh.sz y 1000)→l.length≤5→Wh.sz (l.foldl (·*·) 1) 6000:=fun l h hl=>by have:=Wh.iK h l.length;rw [List.take_length] at this;exact Wh.aP this (by omega)
 have m0:∀ (l:List Int),(∀ y ∈ l,Wh.sz y 1000)→∀ y ∈ l,Wh.small y:=fun l h y hy=>Wh.cK (h y hy) (by omega)
 have m1:∀ y ∈ ([x,x,x,x]:List Int),Wh.sz y 1000:=by intro y h;simp only [List.mem_cons,List.not_mem_nil,or_false] at h;rcases h with h | h | h | h <;> (subst h;assumption)
 have R1:=fun g cap W (h:b8 W g [x,x,x,x])=>bX [x,x,x,x] g cap W h (by simp) (m0 _ m1) (mm _ m1 (by simp))
 have p1:=mp _ m1 (by simp)
 have m2:∀ y ∈ ([-2*a,x,x,z,z]:List Int),Wh.sz y 1000:=by intro y h;simp only [List.mem_cons,List.not_mem_nil,or_false] at h;rcases h with h | h | h | h | h <;> (subst h;assumption)
 have R2:=fun g cap W (h:b8 W g [-2*a,x,x,z,z])=>bX [-2*a,x,x,z,z] g cap W h (by simp) (m0 _ m2) (mm _ m2 (by simp))
 have p2:=mp _ m2 (by simp)
 have m3:∀ y ∈ ([-8*b,x,z,z,z]:List Int),Wh.sz y 1000:=by intro y h;simp only [List.mem_cons,List.not_mem_nil,or_false] at h;rcases h with h | h | h | h | h <;> (subst h;assumption)
 have R3:=fun g cap W (h:b8 W g [-8*b,x,z,z,z])=>bX [-8*b,x,z,z,z] g cap W h (by simp) (m0 _ m3) (mm _ m3 (by simp))
 have p3:=mp _ m3 (by simp)
 have m4:∀ y ∈ ([a*a,z,z,z,z]:List Int),Wh.sz y 1000:=by intro y h;simp only [List.mem_cons,List.not_mem_nil,or_false] at h;rcases h with h | h | h | h | h <;> (subst h;assumption)
 have R4:=fun g cap W (h:b8 W g [a*a,z,z,z,z])=>bX [a*a,z,z,z,z] g cap W h (by simp) (m0 _ m4) (mm _ m4 (by simp))
 have p4:=mp _ m4 (by simp);have hT:=Wh.rz a b x z;generalize hp1:([x,x,x,x]:List Int).foldl (·*·) 1=BX at *;generalize hp2:([-2*a,x,x,z,z]:List Int).foldl (·*·) 1=BZ at *;generalize hp3:([-8*b,x,z,z,z]:List Int).foldl (·*·) 1=Bd at *;generalize H4:([a*a,z,z,z,z]:List Int).foldl (·*·) 1=GW at *
 have ms:∀ y ∈ [BX,BZ,Bd,GW],Wh.sz y 6000:=by intro y h;simp only [List.mem_cons,List.not_mem_nil,or_false] at h;rcases h with h | h | h | h <;> (subst h;assumption)
 have R5:=fun g cap W (h:b8 W g [BX,BZ,Bd,GW])=>i7 [BX,BZ,Bd,GW] g cap W h (by simp) (fun y hy=>Wh.cK (ms y hy) (by omega)) (fun k=>Wh.cK (Wh.aP (Wh.mn ms (by omega) k) (show 6000+4≤7000 by omega)) (by omega))
 rw [hT] at R5
 have N1:=fun W=>bi (-2*a) W (by omega) (by omega)
 have N2:=fun W=>bi (-8*b) W (by omega) (by omega)
 have N3:=fun W=>bi (a*a) W (by omega) (by omega)
 have i1:IntKind.i64.wrap (-2*a)=-2*a:=IntWalk.i64_in _ (by omega);have i2:IntKind.i64.wrap (-8*b)=-8*b:=IntWalk.i64_in _ (by omega);have i3:IntKind.i64.wrap (a*a)=a*a:=IntWalk.i64_in _ (by omega);clear m1 m2 m3 m4 p1 p2 p3 p4 hp1 hp2 hp3 H4 ms mm mp m0 hT;replace R1:=yI R1;replace R2:=yI R2;replace R3:=yI R3;replace R4:=yI R4;replace R5:=yI R5;replace N1:=yI N1;replace N2:=yI N2;replace N3:=yI N3;replace i1:=yI i1;replace i2:=yI i2;replace i3:=yI i3;generalize hF:Wh.bQ a b x z=F at *;clear hF;generalize hs1:decide (x<0)=s1 at *;replace hs1:=yI hs1.symm;generalize hs2:decide (z<0)=s2 at *;replace hs2:=yI hs2.symm;replace hox:=yI (show aF _ _ _ _ from hox);replace zJ:=yI (show aF _ _ _ _ from zJ);generalize (Wh.d_ z.natAbs).length=lz,(Wh.d_ x.natAbs).length=lx at *;have b1:=((aH.new w #[.int .i64 a,.int .i64 b] 29).alloc (.cells #[.bool s1,.slice ax lx cx,.bool s2,.slice az lz cz] 157)).alloc (.cells #[.bool false,.slice none 0 0] 136);have b2:=(aH.new (w.alloc (.cells #[.int .i64 a,.int .i64 b] 29)) #[.bool s1,.slice ax lx cx,.bool s2,.slice az lz cz] 157).alloc (.cells #[.bool false,.slice none 0 0] 136);rw [yJ] at b2;have b3:=aH.new ((w.alloc (.cells #[.int .i64 a,.int .i64 b] 29)).alloc (.cells #[.bool s1,.slice ax lx cx,.bool s2,.slice az lz cz] 157)) #[.bool false,.slice none 0 0] 136;rw [cW] at b3;have hB:=(((yL w.heap.size w).alloc (yM _) (.cells #[.int .i64 a,.int .i64 b] 29)).alloc (by rw [yJ];omega) (.cells #[.bool s1,.slice ax lx cx,.bool s2,.slice az lz cz] 157)).alloc (by rw [cW];omega) (.cells #[.bool false,.slice none 0 0] 136)
 have hz3:(((w.alloc (.cells #[.int .i64 a,.int .i64 b] 29)).alloc (.cells #[.bool s1,.slice ax lx cx,.bool s2,.slice az lz cz] 157)).alloc (.cells #[.bool false,.slice none 0 0] 136)).heap.size=w.heap.size+3:=by rw [yJ,cW]
 have Aw:=yI (aF.alloc (aF.alloc (aF.alloc hox.out (.cells #[.int .i64 a,.int .i64 b] 29)) (.cells #[.bool s1,.slice ax lx cx,.bool s2,.slice az lz cz] 157)) (.cells #[.bool false,.slice none 0 0] 136));have Ax:=yI (aF.alloc (aF.alloc (aF.alloc zJ.out (.cells #[.int .i64 a,.int .i64 b] 29)) (.cells #[.bool s1,.slice ax lx cx,.bool s2,.slice az lz cz] 157)) (.cells #[.bool false,.slice none 0 0] 136));clear hox zJ;generalize hw3:((w.alloc (.cells #[.int .i64 a,.int .i64 b] 29)).alloc (.cells #[.bool s1,.slice ax lx cx,.bool s2,.slice az lz cz] 157)).alloc (.cells #[.bool false,.slice none 0 0] 136)=w3 at *;have e0:=b2.aM.c0;have e1:=b2.aM.c1;have e2:=b2.aM.c2;have e3:=b2.aM.c3;go_enter Tryz.func169,Tryz.ntmps169
 go_wp2
 go_upto_region 1 with fail
 go_cut [5,6] (fun p q wx=>∃ gx gz,w.heap.size+3≤gx∧w.heap.size+3≤gz∧p=.pointer (some ⟨gx,0,none⟩)∧q=.pointer (some ⟨gz,0,none⟩)∧aH wx gx 136 #[.bool s1,.slice ax lx cx]∧aH wx gz 136 #[.bool s2,.slice az lz cz]∧Below (w.heap.size+3) w3 wx)
 case first=>
  go_region
  all_goals
   go_wp2_with fail
   go_meet
   first
   | exact (oj _ _ hz3 _ _ _ _ _).1
   | exact (oj _ _ hz3 _ _ _ _ _).2
 case rest=>
 obtain ⟨gx,gz,hgx,hgz,rfl,rfl,X,Z,hbx⟩:=hcut;rw [←hz3] at hbx;have ox:=yI (aF.below Aw.out hbx);have oz:=yI (aF.below Ax.out hbx);have C:=b1.keep hbx;have R:=b3.keep hbx;have hw:=f_ hB hbx
 have C8:w.heap.size+3≤wc.heap.size:=by have:=hbx.size;omega
 clear hz3;clear b1 b2 b3 e0 e1 e2 e3 hB hbx Aw Ax
 go_upto_region 2 with fail
 refine Rg.bJ 40 [.is (.agg #[.bool s1,.slice ax lx cx]),.is (.agg #[.bool s1,.slice ax lx cx]),.is (.agg #[.bool s1,.slice ax lx cx]),.is (.agg #[.bool s1,.slice ax lx cx]),.at (cF (wc.heap.size) [x,x,x,x]),.at (aJ (wc.heap.size) (BX)),.is (.pointer (some ⟨w.heap.size,0,none⟩)),.is (.int .i64 a),.is (.int .i64 ((-2)*a)),.at (aJ (wc.heap.size) (-2*a)),.is (.agg #[.bool s1,.slice ax lx cx]),.is (.agg #[.bool s1,.slice ax lx cx]),.is (.agg #[.bool s2,.slice az lz cz]),.is (.agg #[.bool s2,.slice az lz cz]),.at (cF (wc.heap.size) [-2*a,x,x,z,z]),.at (aJ (wc.heap.size) (BZ)),.is (.pointer (some ⟨w.heap.size,1,none⟩)),.is (.int .i64 b),.is (.int .i64 ((-8)*b)),.at (aJ (wc.heap.size) (-8*b)),.is (.agg #[.bool s1,.slice ax lx cx]),.is (.agg #[.bool s2,.slice az lz cz]),.is (.agg #[.bool s2,.slice az lz cz]),.is (.agg #[.bool s2,.slice az lz cz]),.at (cF (wc.heap.size) [-8*b,x,z,z,z]),.at (aJ (wc.heap.size) (Bd)),.is (.pointer (some ⟨w.heap.size,0,none⟩)),.is (.int .i64 a),.is (.pointer (some ⟨w.heap.size,0,none⟩)),.is (.int .i64 a),.is (.int .i64 (a*a)),.at (aJ (wc.heap.size) (a*a)),.is (.agg #[.bool s2,.slice az lz cz]),.is (.agg #[.bool s2,.slice az lz cz]),.is (.agg #[.bool s2,.slice az lz cz]),.is (.agg #[.bool s2,.slice az lz cz]),.at (cF (wc.heap.size) [a*a,z,z,z,z]),.at (aJ (wc.heap.size) (GW)),.at (cF (wc.heap.size) [BX,BZ,Bd,GW]),.at (aJ (wc.heap.size) (F))] (by kernel_rfl) (by kernel_rfl) (by kernel_rfl) ⟨?_,?_,?_,?_,?_,?_,?_,?_,?_,?_,?_,?_,?_,?_,?_,?_,?_,?_,?_,?_,?_,?_,?_,?_,?_,?_,?_,?_,?_,?_,?_,?_,?_,?_,?_,?_,?_,?_,?_,?_,fun h_=>absurd h_ (by decide),trivial⟩ ?_
 ·intro _ zZ w_ hB hr
  have e5:zZ.tmps[5]?=some (.pointer (some ⟨gx,0,none⟩)):=hr 5 (by decide);have k0:=aE hB X.box.c0;have k1:=aE hB X.box.c1;exact Rg.aG rfl (by go_simp)
 ·intro _ zZ w_ hB hr
  have e5:zZ.tmps[5]?=some (.pointer (some ⟨gx,0,none⟩)):=hr 5 (by decide);have k0:=aE hB X.box.c0;have k1:=aE hB X.box.c1;exact Rg.aG rfl (by go_simp)
 ·intro _ zZ w_ hB hr
  have e5:zZ.tmps[5]?=some (.pointer (some ⟨gx,0,none⟩)):=hr 5 (by decide);have k0:=aE hB X.box.c0;have k1:=aE hB X.box.c1;exact Rg.aG rfl (by go_simp)
 ·intro _ zZ w_ hB hr
  have e5:zZ.tmps[5]?=some (.pointer (some ⟨gx,0,none⟩)):=hr 5 (by decide);have k0:=aE hB X.box.c0;have k1:=aE hB X.box.c1;exact Rg.aG rfl (by go_simp)
 ·intro _ zZ w_ hB hr
  have e11:=Rg.a_ (hr 11 (by decide));have e12:=Rg.a_ (hr 12 (by decide));have e13:=Rg.a_ (hr 13 (by decide));have e14:=Rg.a_ (hr 14 (by decide));refine Rg.km rfl (x:=.slice (some ⟨w_.heap.size,0,none⟩) 4 4) (ob:=.cells (List.toArray [.bool s1,.slice ax lx cx,.bool s1,.slice ax lx cx,.bool s1,.slice ax lx cx,.bool s1,.slice ax lx cx]) 136) (by first | (go_simp;done) | (go_simp;exact ⟨rfl,rfl⟩) | (go_simp;rfl)) (cF.at (by have:=hB.size;omega) ?_ rfl);exact bf.cons hs1.out (aF.below ox.out hB) (bf.cons hs1.out (aF.below ox.out hB) (bf.cons hs1.out (aF.below ox.out hB) (bf.cons hs1.out (aF.below ox.out hB) (bf.nil))))
 ·intro _ zZ w_ hB hr
  obtain ⟨v15,e15,n15⟩:∃ v,zZ.tmps[15]?=some v∧(Rg.Val.at (cF (wc.heap.size) [x,x,x,x])).ok v w_:=hr 15 (by decide);obtain ⟨g15,rfl,EI⟩:=Rg.ag n15;have ef:=Rg.ef zZ;refine Rg.aZ rfl (by go_simp;exact ⟨rfl,rfl⟩) ?_;refine (R1.out _ _ _ EI).mono ?_;rintro e w5 ⟨y_,rfl,yT,hb5⟩;exact ⟨_,rfl,aJ.at yT (by have:=hB.size;omega),hb5⟩
 ·intro _ zZ w_ hB hr
  have e2:zZ.tmps[2]?=some (.pointer (some ⟨w.heap.size,0,none⟩)):=hr 2 (by decide);exact Rg.aG rfl (by go_simp)
 ·intro _ zZ w_ hB hr
  have e17:=Rg.a_ (hr 17 (by decide));have k0:=aE hB C.box.c0;exact Rg.aG rfl (by go_simp)
 ·intro _ zZ w_ hB hr
  have e18:=Rg.a_ (hr 18 (by decide));have ec:=Rg.ec zZ;exact Rg.aG rfl (by go_simp <;> exact Rg.wo (by omega))
 ·intro _ zZ w_ hB hr
  have e19:=Rg.a_ (hr 19 (by decide));have ef:=Rg.ef zZ;refine Rg.aZ rfl (by go_simp;exact ⟨rfl,rfl⟩) ?_;refine (N1.out _).mono ?_;rintro e w5 ⟨y_,rfl,yT,hb5⟩;exact ⟨_,rfl,aJ.at yT (by have:=hB.size;omega),hb5⟩
 ·intro _ zZ w_ hB hr
  have e5:zZ.tmps[5]?=some (.pointer (some ⟨gx,0,none⟩)):=hr 5 (by decide);have k0:=aE hB X.box.c0;have k1:=aE hB X.box.c1;exact Rg.aG rfl (by go_simp)
 ·intro _ zZ w_ hB hr
  have e5:zZ.tmps[5]?=some (.pointer (some ⟨gx,0,none⟩)):=hr 5 (by decide);have k0:=aE hB X.box.c0;have k1:=aE hB X.box.c1;exact Rg.aG rfl (by go_simp)
 ·intro _ zZ w_ hB hr
  have e6:zZ.tmps[6]?=some (.pointer (some ⟨gz,0,none⟩)):=hr 6 (by decide);have k0:=aE hB Z.box.c0;have k1:=aE hB Z.box.c1;exact Rg.aG rfl (by go_simp)
 ·intro _ zZ w_ hB hr
  have e6:zZ.tmps[6]?=some (.pointer (some ⟨gz,0,none⟩)):=hr 6 (by decide);have k0:=aE hB Z.box.c0;have k1:=aE hB Z.box.c1;exact Rg.aG rfl (by go_simp)
 ·intro _ zZ w_ hB hr
  obtain ⟨v20,e20,n20⟩:∃ v,zZ.tmps[20]?=some v∧(Rg.Val.at (aJ (wc.heap.size) (-2*a))).ok v w_:=hr 20 (by decide);obtain ⟨s20,a20,l20,c20,MX,rfl,o20⟩:=(Rg.ag n20).view;have e21:=Rg.a_ (hr 21 (by decide));have e22:=Rg.a_ (hr 22 (by decide));have e23:=Rg.a_ (hr 23 (by decide));have e24:=Rg.a_ (hr 24 (by decide));refine Rg.km rfl (x:=.slice (some ⟨w_.heap.size,0,none⟩) 5 5) (ob:=.cells (List.toArray [.bool s20,.slice a20 l20 c20,.bool s1,.slice ax lx cx,.bool s1,.slice ax lx cx,.bool s2,.slice az lz cz,.bool s2,.slice az lz cz]) 136) (by first | (go_simp;done) | (go_simp;exact ⟨rfl,rfl⟩) | (go_simp;rfl)) (cF.at (by have:=hB.size;omega) ?_ rfl);exact bf.cons MX.out o20 (bf.cons hs1.out (aF.below ox.out hB) (bf.cons hs1.out (aF.below ox.out hB) (bf.cons hs2.out (aF.below oz.out hB) (bf.cons hs2.out (aF.below oz.out hB) (bf.nil)))))
 ·intro _ zZ w_ hB hr
  obtain ⟨v25,e25,n25⟩:∃ v,zZ.tmps[25]?=some v∧(Rg.Val.at (cF (wc.heap.size) [-2*a,x,x,z,z])).ok v w_:=hr 25 (by decide);obtain ⟨g25,rfl,JN⟩:=Rg.ag n25;have ef:=Rg.ef zZ;refine Rg.aZ rfl (by go_simp;exact ⟨rfl,rfl⟩) ?_;refine (R2.out _ _ _ JN).mono ?_;rintro e w5 ⟨y_,rfl,yT,hb5⟩;exact ⟨_,rfl,aJ.at yT (by have:=hB.size;omega),hb5⟩
 ·intro _ zZ w_ hB hr
  have e2:zZ.tmps[2]?=some (.pointer (some ⟨w.heap.size,0,none⟩)):=hr 2 (by decide);exact Rg.aG rfl (by go_simp)
 ·intro _ zZ w_ hB hr
  have e27:=Rg.a_ (hr 27 (by decide));have k1:=aE hB C.box.c1;exact Rg.aG rfl (by go_simp)
 ·intro _ zZ w_ hB hr
  have e28:=Rg.a_ (hr 28 (by decide));have ec:=Rg.ec zZ;exact Rg.aG rfl (by go_simp <;> exact Rg.wo (by omega))
 ·intro _ zZ w_ hB hr
  have e29:=Rg.a_ (hr 29 (by decide));have ef:=Rg.ef zZ;refine Rg.aZ rfl (by go_simp;exact ⟨rfl,rfl⟩) ?_;refine (N2.out _).mono ?_;rintro e w5 ⟨y_,rfl,yT,hb5⟩;exact ⟨_,rfl,aJ.at yT (by have:=hB.size;omega),hb5⟩
 ·intro _ zZ w_ hB hr
  have e5:zZ.tmps[5]?=some (.pointer (some ⟨gx,0,none⟩)):=hr 5 (by decide);have k0:=aE hB X.box.c0;have k1:=aE hB X.box.c1;exact Rg.aG rfl (by go_simp)
 ·intro _ zZ w_ hB hr
  have e6:zZ.tmps[6]?=some (.pointer (some ⟨gz,0,none⟩)):=hr 6 (by decide);have k0:=aE hB Z.box.c0;have k1:=aE hB Z.box.c1;exact Rg.aG rfl (by go_simp)
 ·intro _ zZ w_ hB hr
  have e6:zZ.tmps[6]?=some (.pointer (some ⟨gz,0,none⟩)):=hr 6 (by decide);have k0:=aE hB Z.box.c0;have k1:=aE hB Z.box.c1;exact Rg.aG rfl (by go_simp)
 ·intro _ zZ w_ hB hr
  have e6:zZ.tmps[6]?=some (.pointer (some ⟨gz,0,none⟩)):=hr 6 (by decide);have k0:=aE hB Z.box.c0;have k1:=aE hB Z.box.c1;exact Rg.aG rfl (by go_simp)
 ·intro _ zZ w_ hB hr
  obtain ⟨v30,e30,n30⟩:∃ v,zZ.tmps[30]?=some v∧(Rg.Val.at (aJ (wc.heap.size) (-8*b))).ok v w_:=hr 30 (by decide);obtain ⟨s30,a30,l30,c30,Mc,rfl,o30⟩:=(Rg.ag n30).view;have e31:=Rg.a_ (hr 31 (by decide));have e32:=Rg.a_ (hr 32 (by decide));have e33:=Rg.a_ (hr 33 (by decide));have e34:=Rg.a_ (hr 34 (by decide));refine Rg.km rfl (x:=.slice (some ⟨w_.heap.size,0,none⟩) 5 5) (ob:=.cells (List.toArray [.bool s30,.slice a30 l30 c30,.bool s1,.slice ax lx cx,.bool s2,.slice az lz cz,.bool s2,.slice az lz cz,.bool s2,.slice az lz cz]) 136) (by first | (go_simp;done) | (go_simp;exact ⟨rfl,rfl⟩) | (go_simp;rfl)) (cF.at (by have:=hB.size;omega) ?_ rfl);exact bf.cons Mc.out o30 (bf.cons hs1.out (aF.below ox.out hB) (bf.cons hs2.out (aF.below oz.out hB) (bf.cons hs2.out (aF.below oz.out hB) (bf.cons hs2.out (aF.below oz.out hB) (bf.nil)))))
 ·intro _ zZ w_ hB hr
  obtain ⟨v35,e35,n35⟩:∃ v,zZ.tmps[35]?=some v∧(Rg.Val.at (cF (wc.heap.size) [-8*b,x,z,z,z])).ok v w_:=hr 35 (by decide);obtain ⟨g35,rfl,NI⟩:=Rg.ag n35;have ef:=Rg.ef zZ;refine Rg.aZ rfl (by go_simp;exact ⟨rfl,rfl⟩) ?_;refine (R3.out _ _ _ NI).mono ?_;rintro e w5 ⟨y_,rfl,yT,hb5⟩;exact ⟨_,rfl,aJ.at yT (by have:=hB.size;omega),hb5⟩
 ·intro _ zZ w_ hB hr
  have e2:zZ.tmps[2]?=some (.pointer (some ⟨w.heap.size,0,none⟩)):=hr 2 (by decide);exact Rg.aG rfl (by go_simp)
 ·intro _ zZ w_ hB hr
  have e37:=Rg.a_ (hr 37 (by decide));have k0:=aE hB C.box.c0;exact Rg.aG rfl (by go_simp)
 ·intro _ zZ w_ hB hr
  have e2:zZ.tmps[2]?=some (.pointer (some ⟨w.heap.size,0,none⟩)):=hr 2 (by decide);exact Rg.aG rfl (by go_simp)
 ·intro _ zZ w_ hB hr
  have e39:=Rg.a_ (hr 39 (by decide));have k0:=aE hB C.box.c0;exact Rg.aG rfl (by go_simp)
 ·intro _ zZ w_ hB hr
  have e38:=Rg.a_ (hr 38 (by decide));have e40:=Rg.a_ (hr 40 (by decide));exact Rg.aG rfl (by go_simp <;> exact Rg.wo (by omega))
 ·intro _ zZ w_ hB hr
  have e41:=Rg.a_ (hr 41 (by decide));have ef:=Rg.ef zZ;refine Rg.aZ rfl (by go_simp;exact ⟨rfl,rfl⟩) ?_;refine (N3.out _).mono ?_;rintro e w5 ⟨y_,rfl,yT,hb5⟩;exact ⟨_,rfl,aJ.at yT (by have:=hB.size;omega),hb5⟩
 ·intro _ zZ w_ hB hr
  have e6:zZ.tmps[6]?=some (.pointer (some ⟨gz,0,none⟩)):=hr 6 (by decide);have k0:=aE hB Z.box.c0;have k1:=aE hB Z.box.c1;exact Rg.aG rfl (by go_simp)
 ·intro _ zZ w_ hB hr
  have e6:zZ.tmps[6]?=some (.pointer (some ⟨gz,0,none⟩)):=hr 6 (by decide);have k0:=aE hB Z.box.c0;have k1:=aE hB Z.box.c1;exact Rg.aG rfl (by go_simp)
 ·intro _ zZ w_ hB hr
  have e6:zZ.tmps[6]?=some (.pointer (some ⟨gz,0,none⟩)):=hr 6 (by decide);have k0:=aE hB Z.box.c0;have k1:=aE hB Z.box.c1;exact Rg.aG rfl (by go_simp)
 ·intro _ zZ w_ hB hr
  have e6:zZ.tmps[6]?=some (.pointer (some ⟨gz,0,none⟩)):=hr 6 (by decide);have k0:=aE hB Z.box.c0;have k1:=aE hB Z.box.c1;exact Rg.aG rfl (by go_simp)
 ·intro _ zZ w_ hB hr
  obtain ⟨v42,e42,n42⟩:∃ v,zZ.tmps[42]?=some v∧(Rg.Val.at (aJ (wc.heap.size) (a*a))).ok v w_:=hr 42 (by decide);obtain ⟨s42,a42,l42,c42,Mk,rfl,o42⟩:=(Rg.ag n42).view;have e43:=Rg.a_ (hr 43 (by decide));have e44:=Rg.a_ (hr 44 (by decide));have e45:=Rg.a_ (hr 45 (by decide));have e46:=Rg.a_ (hr 46 (by decide));refine Rg.km rfl (x:=.slice (some ⟨w_.heap.size,0,none⟩) 5 5) (ob:=.cells (List.toArray [.bool s42,.slice a42 l42 c42,.bool s2,.slice az lz cz,.bool s2,.slice az lz cz,.bool s2,.slice az lz cz,.bool s2,.slice az lz cz]) 136) (by first | (go_simp;done) | (go_simp;exact ⟨rfl,rfl⟩) | (go_simp;rfl)) (cF.at (by have:=hB.size;omega) ?_ rfl);exact bf.cons Mk.out o42 (bf.cons hs2.out (aF.below oz.out hB) (bf.cons hs2.out (aF.below oz.out hB) (bf.cons hs2.out (aF.below oz.out hB) (bf.cons hs2.out (aF.below oz.out hB) (bf.nil)))))
 ·intro _ zZ w_ hB hr
  obtain ⟨v47,e47,n47⟩:∃ v,zZ.tmps[47]?=some v∧(Rg.Val.at (cF (wc.heap.size) [a*a,z,z,z,z])).ok v w_:=hr 47 (by decide);obtain ⟨g47,rfl,NK⟩:=Rg.ag n47;have ef:=Rg.ef zZ;refine Rg.aZ rfl (by go_simp;exact ⟨rfl,rfl⟩) ?_;refine (R4.out _ _ _ NK).mono ?_;rintro e w5 ⟨y_,rfl,yT,hb5⟩;exact ⟨_,rfl,aJ.at yT (by have:=hB.size;omega),hb5⟩
 ·intro _ zZ w_ hB hr
  obtain ⟨v16,e16,n16⟩:∃ v,zZ.tmps[16]?=some v∧(Rg.Val.at (aJ (wc.heap.size) (BX))).ok v w_:=hr 16 (by decide);obtain ⟨s16,a16,Ci,c16,BF,rfl,o16⟩:=(Rg.ag n16).view;obtain ⟨v26,e26,n26⟩:∃ v,zZ.tmps[26]?=some v∧(Rg.Val.at (aJ (wc.heap.size) (BZ))).ok v w_:=hr 26 (by decide);obtain ⟨s26,a26,l26,c26,GI,rfl,NG⟩:=(Rg.ag n26).view;obtain ⟨v36,e36,n36⟩:∃ v,zZ.tmps[36]?=some v∧(Rg.Val.at (aJ (wc.heap.size) (Bd))).ok v w_:=hr 36 (by decide);obtain ⟨s36,a36,l36,c36,Mg,rfl,o36⟩:=(Rg.ag n36).view;obtain ⟨v48,e48,n48⟩:∃ v,zZ.tmps[48]?=some v∧(Rg.Val.at (aJ (wc.heap.size) (GW))).ok v w_:=hr 48 (by decide);obtain ⟨Ik,a48,IQ,Hf,GL,rfl,NL⟩:=(Rg.ag n48).view;refine Rg.km rfl (x:=.slice (some ⟨w_.heap.size,0,none⟩) 4 4) (ob:=.cells (List.toArray [.bool s16,.slice a16 Ci c16,.bool s26,.slice a26 l26 c26,.bool s36,.slice a36 l36 c36,.bool Ik,.slice a48 IQ Hf]) 136) (by first | (go_simp;done) | (go_simp;exact ⟨rfl,rfl⟩) | (go_simp;rfl)) (cF.at (by have:=hB.size;omega) ?_ rfl);exact bf.cons BF.out o16 (bf.cons GI.out NG (bf.cons Mg.out o36 (bf.cons GL.out NL (bf.nil))))
 ·intro _ zZ w_ hB hr
  obtain ⟨v49,e49,n49⟩:∃ v,zZ.tmps[49]?=some v∧(Rg.Val.at (cF (wc.heap.size) [BX,BZ,Bd,GW])).ok v w_:=hr 49 (by decide);obtain ⟨g49,rfl,o49⟩:=Rg.ag n49;have ef:=Rg.ef zZ;refine Rg.aZ rfl (by go_simp;exact ⟨rfl,rfl⟩) ?_;refine (R5.out _ _ _ o49).mono ?_;rintro e w5 ⟨y_,rfl,yT,hb5⟩;exact ⟨_,rfl,aJ.at yT (by have:=hB.size;omega),hb5⟩
 intro vals wz hB hv hne;have n50:(Rg.Val.at (aJ (wc.heap.size) (F))).ok (vals 39) wz:=hv 39 (by decide);simp only [Rg.ak,Rg.fill,Act.put,Nat.reduceAdd];clear hv;obtain ⟨NN,a50,M7,Lh,Mm,Iw,o50⟩:=(Rg.ag n50).view;simp only [Iw];clear Iw;have R2:=R.keep hB;have ⟨c0,c1,f0,f1,_⟩:=R2.box;have hr1:=aF.base (aF.bE o50 R2 (by decide) (.bool NN) (.slice a50 M7 Lh)) (Nat.le_trans (Nat.le_add_right _ 3) C8);have hr2:Below w.heap.size w ((wz.setCell ⟨w.heap.size+1+1,0,none⟩ (.bool NN)).setCell ⟨w.heap.size+1+1,1,none⟩ (.slice a50 M7 Lh)):=yK (yK (f_ hw hB) (by simp <;> omega) _) (by simp <;> omega) _;unfold Rg.aX Rg.aX Oper.wp
 go_simp
 go_wp2;exact bodyPost_ret (v:=.agg #[.bool NN,.slice a50 M7 Lh]) (by simp [results,Tryz.results169,go_sem, *]) rfl (⟨_,by rw [Mm.out],hr1,hr2⟩)
theorem dq (a b x z:Int) (vx vz:Value) (w:World) (bx bz:Nat) (hox:ah w bx vx x) (zJ:ah w bz vz z) (hx:Wh.sz x 1000) (hz:Wh.sz z 1000) (ha1:-1000≤a) (ha2:a≤1000) (hb1:-10000≤b) (hb2:b≤10000) :
  Calls Tryz.prog 148 #[.agg #[.int .i64 a,.int .i64 b],.agg #[.bool (decide (x<0)),vx,.bool (decide (z<0)),vz]] w fun e w'=>∃ sl,e=.returned (.agg #[.bool (decide (Wh.bI a b x z<0)),sl])∧ah w' w.heap.size sl (Wh.bI a b x z)∧Below w.heap.size w w':=by
 obtain ⟨ax,cx,rfl,-,-⟩:=aF.view hox;obtain ⟨az,cz,rfl,-,-⟩:=aF.view zJ;have hq1:Wh.sz a 1000:=Wh.aP (Wh.bV (by omega) (by omega)) (by omega);have hq2:Wh.sz b 1000:=Wh.aP (Wh.bV (by omega) (by omega)) (by omega);have hq3:Wh.sz 4 1000:=Wh.aP (Wh.bV (by omega) (by omega)) (by omega)
 have mm:∀ (l:List Int),(∀ y ∈ l,Wh.sz y 1000)→l.length≤5→∀ k,Wh.small ((l.take k).foldl (·*·) 1):=fun l h hl k=>Wh.cK (Wh.aP (Wh.iK h k) (show 1+l.length*1000≤8000 by omega)) (by omega)
 have mp:∀ (l:List Int),(∀ y ∈ l,Wh.sz y 1000)→l.length≤4→Wh.sz (l.foldl (·*·) 1) 4001:=fun l h hl=>by have:=Wh.iK h l.length;rw [List.take_length] at this;exact Wh.aP this (by omega)
 have m0:∀ (l:List Int),(∀ y ∈ l,Wh.sz y 1000)→∀ y ∈ l,Wh.small y:=fun l h y hy=>Wh.cK (h y hy) (by omega)
 have m1:∀ y ∈ ([x,x,x]:List Int),Wh.sz y 1000:=by intro y h;simp only [List.mem_cons,List.not_mem_nil,or_false] at h;rcases h with h | h | h <;> (subst h;assumption)
 have R1:=fun g cap W (h:b8 W g [x,x,x])=>bX [x,x,x] g cap W h (by simp) (m0 _ m1) (mm _ m1 (by simp))
 have p1:=mp _ m1 (by simp)
 have m2:∀ y ∈ ([a,x,z,z]:List Int),Wh.sz y 1000:=by intro y h;simp only [List.mem_cons,List.not_mem_nil,or_false] at h;rcases h with h | h | h | h <;> (subst h;assumption)
 have R2:=fun g cap W (h:b8 W g [a,x,z,z])=>bX [a,x,z,z] g cap W h (by simp) (m0 _ m2) (mm _ m2 (by simp))
 have p2:=mp _ m2 (by simp)
 have m3:∀ y ∈ ([b,z,z,z]:List Int),Wh.sz y 1000:=by intro y h;simp only [List.mem_cons,List.not_mem_nil,or_false] at h;rcases h with h | h | h | h <;> (subst h;assumption)
 have R3:=fun g cap W (h:b8 W g [b,z,z,z])=>bX [b,z,z,z] g cap W h (by simp) (m0 _ m3) (mm _ m3 (by simp))
 have p3:=mp _ m3 (by simp);have hT:=Wh.qw a b x z;generalize hp1:([x,x,x]:List Int).foldl (·*·) 1=BX at *;generalize hp2:([a,x,z,z]:List Int).foldl (·*·) 1=BZ at *;generalize hp3:([b,z,z,z]:List Int).foldl (·*·) 1=Bd at *
 have ms:∀ y ∈ [BX,BZ,Bd],Wh.sz y 4001:=by intro y h;simp only [List.mem_cons,List.not_mem_nil,or_false] at h;rcases h with h | h | h <;> (subst h;assumption)
 have R5:=fun g cap W (h:b8 W g [BX,BZ,Bd])=>i7 [BX,BZ,Bd] g cap W h (by simp) (fun y hy=>Wh.cK (ms y hy) (by omega)) (fun k=>Wh.cK (Wh.aP (Wh.mn ms (by omega) k) (show 4001+3≤7000 by omega)) (by omega))
 have MQ:=Wh.mn ms (by omega) 3;rw [show ([BX,BZ,Bd]:List Int).take 3=[BX,BZ,Bd] from rfl] at MQ;generalize B0:([BX,BZ,Bd]:List Int).foldl (·+·) 0=GX at *;have MR:Wh.sz GX 4004:=MQ
 have R6:=fun g cap W (h:b8 W g [4,z,GX])=>bX [4,z,GX] g cap W h (by simp) (by
  intro y h;simp only [List.mem_cons,List.not_mem_nil,or_false] at h;rcases h with h | h | h
  ·subst h;exact Wh.cK hq3 (by omega)
  ·subst h;exact Wh.cK hz (by omega)
  ·subst h;exact Wh.cK MR (by omega)) (fun k=>by
  have y0:=Wh.uV;have y1:=Wh.aj y0 hq3;have y2:=Wh.aj y1 hz;have y3:=Wh.aj y2 MR
  match k with
  | 0=>exact Wh.cK y0 (by omega)
  | 1=>exact Wh.cK y1 (by omega)
  | 2=>exact Wh.cK y2 (by omega)
  | k+3=>rw [List.take_of_length_le (by simp)];exact Wh.cK y3 (by omega))
 rw [hT] at R6
 have N1:=fun W=>bi a W (by omega) (by omega)
 have N2:=fun W=>bi b W (by omega) (by omega)
 have N3:=fun W=>bi 4 W (by omega) (by omega)
 clear m1 m2 m3 p1 p2 p3 hp1 hp2 hp3 ms mm mp m0 hT B0 MQ MR;replace R1:=yI R1;replace R2:=yI R2;replace R3:=yI R3;replace R5:=yI R5;replace R6:=yI R6;replace N1:=yI N1;replace N2:=yI N2;replace N3:=yI N3;generalize hF:Wh.bI a b x z=F at *;clear hF;generalize hs1:decide (x<0)=s1 at *;replace hs1:=yI hs1.symm;generalize hs2:decide (z<0)=s2 at *;replace hs2:=yI hs2.symm;replace hox:=yI (show aF _ _ _ _ from hox);replace zJ:=yI (show aF _ _ _ _ from zJ);generalize (Wh.d_ z.natAbs).length=lz,(Wh.d_ x.natAbs).length=lx at *;have b1:=((aH.new w #[.int .i64 a,.int .i64 b] 29).alloc (.cells #[.bool s1,.slice ax lx cx,.bool s2,.slice az lz cz] 157)).alloc (.cells #[.bool false,.slice none 0 0] 136);have b2:=(aH.new (w.alloc (.cells #[.int .i64 a,.int .i64 b] 29)) #[.bool s1,.slice ax lx cx,.bool s2,.slice az lz cz] 157).alloc (.cells #[.bool false,.slice none 0 0] 136);rw [yJ] at b2;have b3:=aH.new ((w.alloc (.cells #[.int .i64 a,.int .i64 b] 29)).alloc (.cells #[.bool s1,.slice ax lx cx,.bool s2,.slice az lz cz] 157)) #[.bool false,.slice none 0 0] 136;rw [cW] at b3;have hB:=(((yL w.heap.size w).alloc (yM _) (.cells #[.int .i64 a,.int .i64 b] 29)).alloc (by rw [yJ];omega) (.cells #[.bool s1,.slice ax lx cx,.bool s2,.slice az lz cz] 157)).alloc (by rw [cW];omega) (.cells #[.bool false,.slice none 0 0] 136)
 have hz3:(((w.alloc (.cells #[.int .i64 a,.int .i64 b] 29)).alloc (.cells #[.bool s1,.slice ax lx cx,.bool s2,.slice az lz cz] 157)).alloc (.cells #[.bool false,.slice none 0 0] 136)).heap.size=w.heap.size+3:=by rw [yJ,cW]
 have Aw:=yI (aF.alloc (aF.alloc (aF.alloc hox.out (.cells #[.int .i64 a,.int .i64 b] 29)) (.cells #[.bool s1,.slice ax lx cx,.bool s2,.slice az lz cz] 157)) (.cells #[.bool false,.slice none 0 0] 136));have Ax:=yI (aF.alloc (aF.alloc (aF.alloc zJ.out (.cells #[.int .i64 a,.int .i64 b] 29)) (.cells #[.bool s1,.slice ax lx cx,.bool s2,.slice az lz cz] 157)) (.cells #[.bool false,.slice none 0 0] 136));clear hox zJ;generalize hw3:((w.alloc (.cells #[.int .i64 a,.int .i64 b] 29)).alloc (.cells #[.bool s1,.slice ax lx cx,.bool s2,.slice az lz cz] 157)).alloc (.cells #[.bool false,.slice none 0 0] 136)=w3 at *;have e0:=b2.aM.c0;have e1:=b2.aM.c1;have e2:=b2.aM.c2;have e3:=b2.aM.c3;go_enter Tryz.func148,Tryz.ntmps148
 go_wp2
 go_upto_region 1 with fail
 go_cut [5,6] (fun p q wx=>∃ gx gz,w.heap.size+3≤gx∧w.heap.size+3≤gz∧p=.pointer (some ⟨gx,0,none⟩)∧q=.pointer (some ⟨gz,0,none⟩)∧aH wx gx 136 #[.bool s1,.slice ax lx cx]∧aH wx gz 136 #[.bool s2,.slice az lz cz]∧Below (w.heap.size+3) w3 wx)
 case first=>
  go_region
  all_goals
   go_wp2_with fail
   go_meet
   first
   | exact (oj _ _ hz3 _ _ _ _ _).1
   | exact (oj _ _ hz3 _ _ _ _ _).2
 case rest=>
 obtain ⟨gx,gz,hgx,hgz,rfl,rfl,X,Z,hbx⟩:=hcut;rw [←hz3] at hbx;have ox:=yI (aF.below Aw.out hbx);have oz:=yI (aF.below Ax.out hbx);have C:=b1.keep hbx;have R:=b3.keep hbx;have hw:=f_ hB hbx
 have C8:w.heap.size+3≤wc.heap.size:=by have:=hbx.size;omega
 clear hz3;clear b1 b2 b3 e0 e1 e2 e3 hB hbx Aw Ax
 go_upto_region 2 with fail
 refine Rg.bJ 24 [.is (.agg #[.bool s1,.slice ax lx cx]),.is (.agg #[.bool s1,.slice ax lx cx]),.is (.agg #[.bool s1,.slice ax lx cx]),.at (cF (wc.heap.size) [x,x,x]),.at (aJ (wc.heap.size) (BX)),.is (.pointer (some ⟨w.heap.size,0,none⟩)),.is (.int .i64 a),.at (aJ (wc.heap.size) (a)),.is (.agg #[.bool s1,.slice ax lx cx]),.is (.agg #[.bool s2,.slice az lz cz]),.is (.agg #[.bool s2,.slice az lz cz]),.at (cF (wc.heap.size) [a,x,z,z]),.at (aJ (wc.heap.size) (BZ)),.is (.pointer (some ⟨w.heap.size,1,none⟩)),.is (.int .i64 b),.at (aJ (wc.heap.size) (b)),.is (.agg #[.bool s2,.slice az lz cz]),.is (.agg #[.bool s2,.slice az lz cz]),.is (.agg #[.bool s2,.slice az lz cz]),.at (cF (wc.heap.size) [b,z,z,z]),.at (aJ (wc.heap.size) (Bd)),.at (cF (wc.heap.size) [BX,BZ,Bd]),.at (aJ (wc.heap.size) (GX)),.new (wc.heap.size) 136 #[.bool false,.slice none 0 0]] (by kernel_rfl) (by kernel_rfl) (by kernel_rfl) ⟨?_,?_,?_,?_,?_,?_,?_,?_,?_,?_,?_,?_,?_,?_,?_,?_,?_,?_,?_,?_,?_,?_,?_,?_,fun h_=>absurd h_ (by decide),trivial⟩ ?_
 ·intro _ zZ w_ hB hr
  have e5:zZ.tmps[5]?=some (.pointer (some ⟨gx,0,none⟩)):=hr 5 (by decide);have k0:=aE hB X.box.c0;have k1:=aE hB X.box.c1;exact Rg.aG rfl (by go_simp)
 ·intro _ zZ w_ hB hr
  have e5:zZ.tmps[5]?=some (.pointer (some ⟨gx,0,none⟩)):=hr 5 (by decide);have k0:=aE hB X.box.c0;have k1:=aE hB X.box.c1;exact Rg.aG rfl (by go_simp)
 ·intro _ zZ w_ hB hr
  have e5:zZ.tmps[5]?=some (.pointer (some ⟨gx,0,none⟩)):=hr 5 (by decide);have k0:=aE hB X.box.c0;have k1:=aE hB X.box.c1;exact Rg.aG rfl (by go_simp)
 ·intro _ zZ w_ hB hr
  have e12:=Rg.a_ (hr 12 (by decide));have e13:=Rg.a_ (hr 13 (by decide));have e14:=Rg.a_ (hr 14 (by decide));refine Rg.km rfl (x:=.slice (some ⟨w_.heap.size,0,none⟩) 3 3) (ob:=.cells (List.toArray [.bool s1,.slice ax lx cx,.bool s1,.slice ax lx cx,.bool s1,.slice ax lx cx]) 136) (by first | (go_simp;done) | (go_simp;exact ⟨rfl,rfl⟩) | (go_simp;rfl)) (cF.at (by have:=hB.size;omega) ?_ rfl);exact bf.cons hs1.out (aF.below ox.out hB) (bf.cons hs1.out (aF.below ox.out hB) (bf.cons hs1.out (aF.below ox.out hB) (bf.nil)))
 ·intro _ zZ w_ hB hr
  obtain ⟨v15,e15,n15⟩:∃ v,zZ.tmps[15]?=some v∧(Rg.Val.at (cF (wc.heap.size) [x,x,x])).ok v w_:=hr 15 (by decide);obtain ⟨g15,rfl,EI⟩:=Rg.ag n15;have ef:=Rg.ef zZ;refine Rg.aZ rfl (by go_simp;exact ⟨rfl,rfl⟩) ?_;refine (R1.out _ _ _ EI).mono ?_;rintro e w5 ⟨y_,rfl,yT,hb5⟩;exact ⟨_,rfl,aJ.at yT (by have:=hB.size;omega),hb5⟩
 ·intro _ zZ w_ hB hr
  have e2:zZ.tmps[2]?=some (.pointer (some ⟨w.heap.size,0,none⟩)):=hr 2 (by decide);exact Rg.aG rfl (by go_simp)
 ·intro _ zZ w_ hB hr
  have e17:=Rg.a_ (hr 17 (by decide));have k0:=aE hB C.box.c0;exact Rg.aG rfl (by go_simp)
 ·intro _ zZ w_ hB hr
  have e18:=Rg.a_ (hr 18 (by decide));have ef:=Rg.ef zZ;refine Rg.aZ rfl (by go_simp;exact ⟨rfl,rfl⟩) ?_;refine (N1.out _).mono ?_;rintro e w5 ⟨y_,rfl,yT,hb5⟩;exact ⟨_,rfl,aJ.at yT (by have:=hB.size;omega),hb5⟩
 ·intro _ zZ w_ hB hr
  have e5:zZ.tmps[5]?=some (.pointer (some ⟨gx,0,none⟩)):=hr 5 (by decide);have k0:=aE hB X.box.c0;have k1:=aE hB X.box.c1;exact Rg.aG rfl (by go_simp)
 ·intro _ zZ w_ hB hr
  have e6:zZ.tmps[6]?=some (.pointer (some ⟨gz,0,none⟩)):=hr 6 (by decide);have k0:=aE hB Z.box.c0;have k1:=aE hB Z.box.c1;exact Rg.aG rfl (by go_simp)
 ·intro _ zZ w_ hB hr
  have e6:zZ.tmps[6]?=some (.pointer (some ⟨gz,0,none⟩)):=hr 6 (by decide);have k0:=aE hB Z.box.c0;have k1:=aE hB Z.box.c1;exact Rg.aG rfl (by go_simp)
 ·intro _ zZ w_ hB hr
  obtain ⟨v19,e19,n19⟩:∃ v,zZ.tmps[19]?=some v∧(Rg.Val.at (aJ (wc.heap.size) (a))).ok v w_:=hr 19 (by decide);obtain ⟨C_,DW,Cs,c19,BG,rfl,Gz⟩:=(Rg.ag n19).view;have e20:=Rg.a_ (hr 20 (by decide));have e21:=Rg.a_ (hr 21 (by decide));have e22:=Rg.a_ (hr 22 (by decide));refine Rg.km rfl (x:=.slice (some ⟨w_.heap.size,0,none⟩) 4 4) (ob:=.cells (List.toArray [.bool C_,.slice DW Cs c19,.bool s1,.slice ax lx cx,.bool s2,.slice az lz cz,.bool s2,.slice az lz cz]) 136) (by first | (go_simp;done) | (go_simp;exact ⟨rfl,rfl⟩) | (go_simp;rfl)) (cF.at (by have:=hB.size;omega) ?_ rfl);exact bf.cons BG.out Gz (bf.cons hs1.out (aF.below ox.out hB) (bf.cons hs2.out (aF.below oz.out hB) (bf.cons hs2.out (aF.below oz.out hB) (bf.nil))))
 ·intro _ zZ w_ hB hr
  obtain ⟨v23,e23,n23⟩:∃ v,zZ.tmps[23]?=some v∧(Rg.Val.at (cF (wc.heap.size) [a,x,z,z])).ok v w_:=hr 23 (by decide);obtain ⟨g23,rfl,GS⟩:=Rg.ag n23;have ef:=Rg.ef zZ;refine Rg.aZ rfl (by go_simp;exact ⟨rfl,rfl⟩) ?_;refine (R2.out _ _ _ GS).mono ?_;rintro e w5 ⟨y_,rfl,yT,hb5⟩;exact ⟨_,rfl,aJ.at yT (by have:=hB.size;omega),hb5⟩
 ·intro _ zZ w_ hB hr
  have e2:zZ.tmps[2]?=some (.pointer (some ⟨w.heap.size,0,none⟩)):=hr 2 (by decide);exact Rg.aG rfl (by go_simp)
 ·intro _ zZ w_ hB hr
  have e25:=Rg.a_ (hr 25 (by decide));have k1:=aE hB C.box.c1;exact Rg.aG rfl (by go_simp)
 ·intro _ zZ w_ hB hr
  have e26:=Rg.a_ (hr 26 (by decide));have ef:=Rg.ef zZ;refine Rg.aZ rfl (by go_simp;exact ⟨rfl,rfl⟩) ?_;refine (N2.out _).mono ?_;rintro e w5 ⟨y_,rfl,yT,hb5⟩;exact ⟨_,rfl,aJ.at yT (by have:=hB.size;omega),hb5⟩
 ·intro _ zZ w_ hB hr
  have e6:zZ.tmps[6]?=some (.pointer (some ⟨gz,0,none⟩)):=hr 6 (by decide);have k0:=aE hB Z.box.c0;have k1:=aE hB Z.box.c1;exact Rg.aG rfl (by go_simp)
 ·intro _ zZ w_ hB hr
  have e6:zZ.tmps[6]?=some (.pointer (some ⟨gz,0,none⟩)):=hr 6 (by decide);have k0:=aE hB Z.box.c0;have k1:=aE hB Z.box.c1;exact Rg.aG rfl (by go_simp)
 ·intro _ zZ w_ hB hr
  have e6:zZ.tmps[6]?=some (.pointer (some ⟨gz,0,none⟩)):=hr 6 (by decide);have k0:=aE hB Z.box.c0;have k1:=aE hB Z.box.c1;exact Rg.aG rfl (by go_simp)
 ·intro _ zZ w_ hB hr
  obtain ⟨v27,e27,n27⟩:∃ v,zZ.tmps[27]?=some v∧(Rg.Val.at (aJ (wc.heap.size) (b))).ok v w_:=hr 27 (by decide);obtain ⟨Gc,a27,GQ,Fh,GJ,rfl,JO⟩:=(Rg.ag n27).view;have e28:=Rg.a_ (hr 28 (by decide));have e29:=Rg.a_ (hr 29 (by decide));have e30:=Rg.a_ (hr 30 (by decide));refine Rg.km rfl (x:=.slice (some ⟨w_.heap.size,0,none⟩) 4 4) (ob:=.cells (List.toArray [.bool Gc,.slice a27 GQ Fh,.bool s2,.slice az lz cz,.bool s2,.slice az lz cz,.bool s2,.slice az lz cz]) 136) (by first | (go_simp;done) | (go_simp;exact ⟨rfl,rfl⟩) | (go_simp;rfl)) (cF.at (by have:=hB.size;omega) ?_ rfl);exact bf.cons GJ.out JO (bf.cons hs2.out (aF.below oz.out hB) (bf.cons hs2.out (aF.below oz.out hB) (bf.cons hs2.out (aF.below oz.out hB) (bf.nil))))
 ·intro _ zZ w_ hB hr
  obtain ⟨v31,e31,n31⟩:∃ v,zZ.tmps[31]?=some v∧(Rg.Val.at (cF (wc.heap.size) [b,z,z,z])).ok v w_:=hr 31 (by decide);obtain ⟨g31,rfl,NH⟩:=Rg.ag n31;have ef:=Rg.ef zZ;refine Rg.aZ rfl (by go_simp;exact ⟨rfl,rfl⟩) ?_;refine (R3.out _ _ _ NH).mono ?_;rintro e w5 ⟨y_,rfl,yT,hb5⟩;exact ⟨_,rfl,aJ.at yT (by have:=hB.size;omega),hb5⟩
 ·intro _ zZ w_ hB hr
  obtain ⟨v16,e16,n16⟩:∃ v,zZ.tmps[16]?=some v∧(Rg.Val.at (aJ (wc.heap.size) (BX))).ok v w_:=hr 16 (by decide);obtain ⟨s16,a16,Ci,c16,BF,rfl,o16⟩:=(Rg.ag n16).view;obtain ⟨v24,e24,n24⟩:∃ v,zZ.tmps[24]?=some v∧(Rg.Val.at (aJ (wc.heap.size) (BZ))).ok v w_:=hr 24 (by decide);obtain ⟨s24,a24,EH,c24,C4,rfl,G0⟩:=(Rg.ag n24).view;obtain ⟨v32,e32,n32⟩:∃ v,zZ.tmps[32]?=some v∧(Rg.Val.at (aJ (wc.heap.size) (Bd))).ok v w_:=hr 32 (by decide);obtain ⟨s32,a32,l32,c32,GK,rfl,o32⟩:=(Rg.ag n32).view;refine Rg.km rfl (x:=.slice (some ⟨w_.heap.size,0,none⟩) 3 3) (ob:=.cells (List.toArray [.bool s16,.slice a16 Ci c16,.bool s24,.slice a24 EH c24,.bool s32,.slice a32 l32 c32]) 136) (by first | (go_simp;done) | (go_simp;exact ⟨rfl,rfl⟩) | (go_simp;rfl)) (cF.at (by have:=hB.size;omega) ?_ rfl);exact bf.cons BF.out o16 (bf.cons C4.out G0 (bf.cons GK.out o32 (bf.nil)))
 ·intro _ zZ w_ hB hr
  obtain ⟨v33,e33,n33⟩:∃ v,zZ.tmps[33]?=some v∧(Rg.Val.at (cF (wc.heap.size) [BX,BZ,Bd])).ok v w_:=hr 33 (by decide);obtain ⟨g33,rfl,GT⟩:=Rg.ag n33;have ef:=Rg.ef zZ;refine Rg.aZ rfl (by go_simp;exact ⟨rfl,rfl⟩) ?_;refine (R5.out _ _ _ GT).mono ?_;rintro e w5 ⟨y_,rfl,yT,hb5⟩;exact ⟨_,rfl,aJ.at yT (by have:=hB.size;omega),hb5⟩
 ·intro _ zZ w_ hB hr
  exact ⟨by have:=hB.size;omega,rfl,by first | (go_simp;done) | (go_simp;rfl)⟩
 intro vals wz hB hv hne;have n7:(Rg.Val.new (wc.heap.size) 136 #[.bool false,.slice none 0 0]).ok (vals 23) wz:=hv 23 (by decide);have n34:(Rg.Val.at (aJ (wc.heap.size) (GX))).ok (vals 22) wz:=hv 22 (by decide);simp only [Rg.ak,Rg.fill,Act.put,Nat.reduceAdd];clear hv;obtain ⟨g7,FC,D9,o7⟩:=n7;replace o7:aH wz g7 136 #[.bool false,.slice none 0 0]:=o7;obtain ⟨G1,a34,Gy,c34,Me,CF,o34⟩:=(Rg.ag n34).view;simp only [D9,CF];clear D9 CF;have hB2:Below wc.heap.size wc ((wz.setCell ⟨g7,0,none⟩ (.bool G1)).setCell ⟨g7,1,none⟩ (.slice a34 Gy c34)):=yK (yK hB FC _) FC _;have D:=aH.set2 o7 (.bool G1) (.slice a34 Gy c34);have oD:=yI (aF.bE o34 o7 (by decide) (.bool G1) (.slice a34 Gy c34));have ⟨c0,c1,f0,f1,_⟩:=o7.box;unfold Rg.aX Rg.aX Oper.wp
 go_simp
 clear c0 c1 f0 f1 o7 o34;generalize ((wz.setCell ⟨g7,0,none⟩ (.bool G1)).setCell ⟨g7,1,none⟩ (.slice a34 Gy c34))=wd at *;replace Z:=Z.keep hB2;replace R:=R.keep hB2;replace oz:=yI (aF.below oz.out hB2);replace hw:=f_ hw hB2;have C9:wc.heap.size≤wd.heap.size:=hB2.size
 go_upto_region 3 with fail
 clear hB2;refine Rg.bJ 5 [.at (aJ (wd.heap.size) (4)),.is (.agg #[.bool s2,.slice az lz cz]),.is (.agg #[.bool G1,.slice a34 Gy c34]),.at (cF (wd.heap.size) [4,z,GX]),.at (aJ (wd.heap.size) (F))] (by kernel_rfl) (by kernel_rfl) (by kernel_rfl) ⟨?_,?_,?_,?_,?_,fun h_=>absurd h_ (by decide),trivial⟩ ?_
 ·intro _ zZ w_ hB hr
  have ec:=Rg.ec zZ;have ef:=Rg.ef zZ;refine Rg.aZ rfl (by go_simp;exact ⟨rfl,rfl⟩) ?_;refine (N3.out _).mono ?_;rintro e w5 ⟨y_,rfl,yT,hb5⟩;exact ⟨_,rfl,aJ.at yT (by have:=hB.size;omega),hb5⟩
 ·intro _ zZ w_ hB hr
  have e6:zZ.tmps[6]?=some (.pointer (some ⟨gz,0,none⟩)):=hr 6 (by decide);have k0:=aE hB Z.box.c0;have k1:=aE hB Z.box.c1;exact Rg.aG rfl (by go_simp)
 ·intro _ zZ w_ hB hr
  have e7:zZ.tmps[7]?=some (.pointer (some ⟨g7,0,none⟩)):=hr 7 (by decide);have k0:=aE hB D.box.c0;have k1:=aE hB D.box.c1;exact Rg.aG rfl (by go_simp)
 ·intro _ zZ w_ hB hr
  obtain ⟨v35,e35,n35⟩:∃ v,zZ.tmps[35]?=some v∧(Rg.Val.at (aJ (wd.heap.size) (4))).ok v w_:=hr 35 (by decide);obtain ⟨s35,a35,l35,c35,Mf,rfl,NI⟩:=(Rg.ag n35).view;have e36:=Rg.a_ (hr 36 (by decide));have e37:=Rg.a_ (hr 37 (by decide));refine Rg.km rfl (x:=.slice (some ⟨w_.heap.size,0,none⟩) 3 3) (ob:=.cells (List.toArray [.bool s35,.slice a35 l35 c35,.bool s2,.slice az lz cz,.bool G1,.slice a34 Gy c34]) 136) (by first | (go_simp;done) | (go_simp;exact ⟨rfl,rfl⟩) | (go_simp;rfl)) (cF.at (by have:=hB.size;omega) ?_ rfl);exact bf.cons Mf.out NI (bf.cons hs2.out (aF.below oz.out hB) (bf.cons Me.out (aF.below oD.out hB) (bf.nil)))
 ·intro _ zZ w_ hB hr
  obtain ⟨v38,e38,n38⟩:∃ v,zZ.tmps[38]?=some v∧(Rg.Val.at (cF (wd.heap.size) [4,z,GX])).ok v w_:=hr 38 (by decide);obtain ⟨g38,rfl,NJ⟩:=Rg.ag n38;have ef:=Rg.ef zZ;refine Rg.aZ rfl (by go_simp;exact ⟨rfl,rfl⟩) ?_;refine (R6.out _ _ _ NJ).mono ?_;rintro e w5 ⟨y_,rfl,yT,hb5⟩;exact ⟨_,rfl,aJ.at yT (by have:=hB.size;omega),hb5⟩
 intro vals wy hB4 hv hne;have n39:(Rg.Val.at (aJ (wd.heap.size) (F))).ok (vals 4) wy:=hv 4 (by decide);simp only [Rg.ak,Rg.fill,Act.put,Nat.reduceAdd];clear hv;obtain ⟨NM,a39,M6,Lg,Mj,Ck,o39⟩:=(Rg.ag n39).view;simp only [Ck];clear Ck;have R2:=R.keep hB4;have ⟨c0,c1,f0,f1,_⟩:=R2.box;have hr1:=aF.base (aF.bE o39 R2 (by decide) (.bool NM) (.slice a39 M6 Lg)) (show w.heap.size≤wd.heap.size from hw.size);have hr2:Below w.heap.size w ((wy.setCell ⟨w.heap.size+1+1,0,none⟩ (.bool NM)).setCell ⟨w.heap.size+1+1,1,none⟩ (.slice a39 M6 Lg)):=yK (yK (f_ hw hB4) (by simp <;> omega) _) (by simp <;> omega) _;unfold Rg.aX Rg.aX Oper.wp
 go_simp
 go_wp2;exact bodyPost_ret (v:=.agg #[.bool NM,.slice a39 M6 Lg]) (by simp [results,Tryz.results148,go_sem, *]) rfl (⟨_,by rw [Mj.out],hr1,hr2⟩)
theorem kh (a b x z:Int) (vx vz:Value) (w:World) (bx bz:Nat) (hox:ah w bx vx x) (zJ:ah w bz vz z) (hx:Wh.sz x 1000) (hz:Wh.sz z 1000) (ha1:-1000≤a) (ha2:a≤1000) (hb1:-10000≤b) (hb2:b≤10000) :
  Calls Tryz.prog 143 #[.agg #[.int .i64 a,.int .i64 b],.agg #[.bool (decide (x<0)),vx,.bool (decide (z<0)),vz]] w fun e w'=>∃ sl,e=.returned (.agg #[.bool (decide (Wh.bI a b x z<0)),sl])∧ah w' w.heap.size sl (Wh.bI a b x z)∧Below w.heap.size w w':=by
 obtain ⟨ax,cx,rfl,-,-⟩:=aF.view hox;obtain ⟨az,cz,rfl,-,-⟩:=aF.view zJ;have m1:=Wh.aj hx hx;have m0:=Wh.aj hz hz;have m2:=Wh.aj m1 hx;have m3:=Wh.aj hx m0;have m4:=Wh.aj m3 (Wh.bV (n:=a) (by omega) (by omega));have m5:=Wh.gB (Wh.aP m2 (show 1000+1000+1000≤4000 by omega)) (Wh.aP m4 (show _≤4000 by omega));have m6:=Wh.aj hz m0;have m7:=Wh.aj m6 (Wh.bV (n:=b) (by omega) (by omega));have m8:=Wh.gB (Wh.aP m5 (show 4000+1≤4100 by omega)) (Wh.aP m7 (show _≤4100 by omega));have m9:=Wh.aj hz m8
 have P0:=fun v W k (h:aF W k v (Wh.d_ (z).natAbs))=>dj (z) v W k h (Wh.aW.2 (Wh.aP hz (by omega)))
 have P1:=fun v W k (h:aF W k v (Wh.d_ (x).natAbs))=>dj (x) v W k h (Wh.aW.2 (Wh.aP hx (by omega)))
 have P2:=fun v v' W k k' (h:aF W k v (Wh.d_ (x*x).natAbs)) (h':aF W k' v' (Wh.d_ (x).natAbs))=>dw (x*x) (x) v v' W k k' h h' (Wh.aW.2 (Wh.aP m1 (by omega))) (Wh.aW.2 (Wh.aP hx (by omega)))
 have P3:=fun v v' W k k' (h:aF W k v (Wh.d_ (x).natAbs)) (h':aF W k' v' (Wh.d_ (z*z).natAbs))=>dw (x) (z*z) v v' W k k' h h' (Wh.aW.2 (Wh.aP hx (by omega))) (Wh.aW.2 (Wh.aP m0 (by omega)))
 have P4:=fun v W k (h:aF W k v (Wh.d_ (x*(z*z)).natAbs))=>d7 (x*(z*z)) (a) v W k h (Wh.aW.2 (Wh.aP m3 (by omega))) (by omega) (by omega)
 have P5:=fun v v' W k k' (h:aF W k v (Wh.d_ (x*x*x).natAbs)) (h':aF W k' v' (Wh.d_ (x*(z*z)*a).natAbs))=>jH (x*x*x) (x*(z*z)*a) v v' W k k' h h' (Wh.aW.2 (Wh.aP m2 (by omega))) (Wh.aW.2 (Wh.aP m4 (by omega)))
 have P6:=fun v v' W k k' (h:aF W k v (Wh.d_ (z).natAbs)) (h':aF W k' v' (Wh.d_ (z*z).natAbs))=>dw (z) (z*z) v v' W k k' h h' (Wh.aW.2 (Wh.aP hz (by omega))) (Wh.aW.2 (Wh.aP m0 (by omega)))
 have P7:=fun v W k (h:aF W k v (Wh.d_ (z*(z*z)).natAbs))=>d7 (z*(z*z)) (b) v W k h (Wh.aW.2 (Wh.aP m6 (by omega))) (by omega) (by omega)
 have P8:=fun v v' W k k' (h:aF W k v (Wh.d_ (x*x*x+x*(z*z)*a).natAbs)) (h':aF W k' v' (Wh.d_ (z*(z*z)*b).natAbs))=>jH (x*x*x+x*(z*z)*a) (z*(z*z)*b) v v' W k k' h h' (Wh.aW.2 (Wh.aP m5 (by omega))) (Wh.aW.2 (Wh.aP m7 (by omega)))
 have P9:=fun v v' W k k' (h:aF W k v (Wh.d_ (z).natAbs)) (h':aF W k' v' (Wh.d_ (x*x*x+x*(z*z)*a+z*(z*z)*b).natAbs))=>dw (z) (x*x*x+x*(z*z)*a+z*(z*z)*b) v v' W k k' h h' (Wh.aW.2 (Wh.aP hz (by omega))) (Wh.aW.2 (Wh.aP m8 (by omega)))
 have PA:=fun v W k (h:aF W k v (Wh.d_ (z*(x*x*x+x*(z*z)*a+z*(z*z)*b)).natAbs))=>d7 (z*(x*x*x+x*(z*z)*a+z*(z*z)*b)) (4) v W k h (Wh.aW.2 (Wh.aP m9 (by omega))) (by omega) (by omega)
 have hT:=Wh.nI a b x z;rw [hT] at PA;clear hT m1 m0 m2 m3 m4 m5 m6 m7 m8 m9;generalize Wh.bI a b x z=F at *;generalize Fo:x*x*x+x*(z*z)*a+z*(z*z)*b=S2 at *;generalize Fn:x*x*x+x*(z*z)*a=S1 at *;generalize Lz:z*(z*z)*b=zb at *;generalize L0:z*(z*z)=zc at *;generalize Lr:x*(z*z)*a=xa at *;generalize Lu:x*(z*z)=xz at *;generalize Ls:x*x*x=xc at *;generalize Fp:x*x=xq at *;generalize Fq:z*z=zq at *;generalize hGg:z*S2=zs2 at *;clear Fo Fn Lz L0 Lr Lu Ls Fp Fq hGg;replace P0:=yI P0;replace P1:=yI P1;replace P2:=yI P2;replace P3:=yI P3;replace P4:=yI P4;replace P5:=yI P5;replace P6:=yI P6;replace P7:=yI P7;replace P8:=yI P8;replace P9:=yI P9;replace PA:=yI PA;generalize hs1:decide (x<0)=s1 at *;replace hs1:=yI hs1.symm;generalize hs2:decide (z<0)=s2 at *;replace hs2:=yI hs2.symm;replace hox:=yI (show aF _ _ _ _ from hox);replace zJ:=yI (show aF _ _ _ _ from zJ);generalize (Wh.d_ z.natAbs).length=lz,(Wh.d_ x.natAbs).length=lx at *;have b1:=((aH.new w #[.int .i64 a,.int .i64 b] 29).alloc (.cells #[.bool s1,.slice ax lx cx,.bool s2,.slice az lz cz] 157)).alloc (.cells #[.bool false,.slice none 0 0] 136);have b2:=(aH.new (w.alloc (.cells #[.int .i64 a,.int .i64 b] 29)) #[.bool s1,.slice ax lx cx,.bool s2,.slice az lz cz] 157).alloc (.cells #[.bool false,.slice none 0 0] 136);rw [yJ] at b2;have b3:=aH.new ((w.alloc (.cells #[.int .i64 a,.int .i64 b] 29)).alloc (.cells #[.bool s1,.slice ax lx cx,.bool s2,.slice az lz cz] 157)) #[.bool false,.slice none 0 0] 136;rw [cW] at b3;have hB:=(((yL w.heap.size w).alloc (yM _) (.cells #[.int .i64 a,.int .i64 b] 29)).alloc (by rw [yJ];omega) (.cells #[.bool s1,.slice ax lx cx,.bool s2,.slice az lz cz] 157)).alloc (by rw [cW];omega) (.cells #[.bool false,.slice none 0 0] 136)
 have hz3:(((w.alloc (.cells #[.int .i64 a,.int .i64 b] 29)).alloc (.cells #[.bool s1,.slice ax lx cx,.bool s2,.slice az lz cz] 157)).alloc (.cells #[.bool false,.slice none 0 0] 136)).heap.size=w.heap.size+3:=by rw [yJ,cW]
 have Aw:=yI (aF.alloc (aF.alloc (aF.alloc hox.out (.cells #[.int .i64 a,.int .i64 b] 29)) (.cells #[.bool s1,.slice ax lx cx,.bool s2,.slice az lz cz] 157)) (.cells #[.bool false,.slice none 0 0] 136));have Ax:=yI (aF.alloc (aF.alloc (aF.alloc zJ.out (.cells #[.int .i64 a,.int .i64 b] 29)) (.cells #[.bool s1,.slice ax lx cx,.bool s2,.slice az lz cz] 157)) (.cells #[.bool false,.slice none 0 0] 136));clear hox zJ;generalize hw3:((w.alloc (.cells #[.int .i64 a,.int .i64 b] 29)).alloc (.cells #[.bool s1,.slice ax lx cx,.bool s2,.slice az lz cz] 157)).alloc (.cells #[.bool false,.slice none 0 0] 136)=w3 at *;have e0:=b2.aM.c0;have e1:=b2.aM.c1;have e2:=b2.aM.c2;have e3:=b2.aM.c3;go_enter Tryz.func143,Tryz.ntmps143
 go_wp2
 go_upto_region 1 with fail
 go_cut [5,6] (fun p q wx=>∃ gx gz,w.heap.size+3≤gx∧w.heap.size+3≤gz∧p=.pointer (some ⟨gx,0,none⟩)∧q=.pointer (some ⟨gz,0,none⟩)∧aH wx gx 136 #[.bool s1,.slice ax lx cx]∧aH wx gz 136 #[.bool s2,.slice az lz cz]∧Below (w.heap.size+3) w3 wx)
 case first=>
  go_region
  all_goals
   go_wp2_with fail
   go_meet
   first
   | exact (oj _ _ hz3 _ _ _ _ _).1
   | exact (oj _ _ hz3 _ _ _ _ _).2
 case rest=>
 obtain ⟨gx,gz,hgx,hgz,rfl,rfl,X,Z,hbx⟩:=hcut;rw [←hz3] at hbx;have ox:=yI (aF.below Aw.out hbx);have oz:=yI (aF.below Ax.out hbx);have C:=b1.keep hbx;have R:=b3.keep hbx;have hw:=f_ hB hbx
 have C8:w.heap.size+3≤wc.heap.size:=by have:=hbx.size;omega
 clear hz3;clear b1 b2 b3 e0 e1 e2 e3 hB hbx Aw Ax;have z0:=Z.box.c0;have z1:=Z.box.c1
 go_wp2_with (go_at_call 154;(with_reducible refine (P0.out _ _ _ oz.out).mono ?_);rintro e w4 ⟨v3,rfl,ho3,hb4⟩;obtain ⟨a3,k3,rfl,JD,hv3⟩:=aF.view ho3;clear JD hv3 z0 z1)
 have Ab:wc.heap.size≤w4.heap.size:=hb4.size;generalize (Wh.d_ zq.natAbs).length=l3 at *;generalize hs3:decide (zq<0)=s3 at *;replace hs3:=yI hs3.symm;have o3:=yI (aF.alloc (show aF _ _ _ _ from ho3) (.cells #[.bool s3,.slice a3 l3 k3] 136));clear ho3;have T:=aH.new w4 #[.bool s3,.slice a3 l3 k3] 136;have hB2:Below wc.heap.size wc (w4.alloc (.cells #[.bool s3,.slice a3 l3 k3] 136)):=hb4.alloc Ab (.cells #[.bool s3,.slice a3 l3 k3] 136);have FC:wc.heap.size≤w4.heap.size:=Ab;have Hq:gz<wc.heap.size:=Z.lt
 go_upto_region 3 with fail
 generalize w4.alloc (.cells #[.bool s3,.slice a3 l3 k3] 136)=wd at *;replace X:=X.keep hB2;replace Z:=Z.keep hB2;replace C:=C.keep hB2;replace R:=R.keep hB2;replace ox:=yI (aF.below ox.out hB2);replace oz:=yI (aF.below oz.out hB2);replace hw:=f_ hw hB2;have C9:wc.heap.size≤wd.heap.size:=hB2.size
 replace Hq:gz<wd.heap.size:=by omega
 replace C8:w.heap.size+3≤wd.heap.size:=by omega
 clear hB2 hb4;refine Rg.bJ 12 [.is (.agg #[.bool s1,.slice ax lx cx]),.at (aJ (wd.heap.size) (xq)),.is (.agg #[.bool s1,.slice ax lx cx]),.at (aJ (wd.heap.size) (xc)),.is (.agg #[.bool s1,.slice ax lx cx]),.is (.agg #[.bool s3,.slice a3 l3 k3]),.at (aJ (wd.heap.size) (xz)),.is (.pointer (some ⟨w.heap.size,0,none⟩)),.is (.int .i64 a),.at (aJ (wd.heap.size) (xa)),.at (aJ (wd.heap.size) (S1)),.new (wd.heap.size) 136 #[.bool false,.slice none 0 0]] (by kernel_rfl) (by kernel_rfl) (by kernel_rfl) ⟨?_,?_,?_,?_,?_,?_,?_,?_,?_,?_,?_,?_,fun h_=>absurd h_ (by decide),trivial⟩ ?_
 ·intro _ zZ w_ hB hr
  have e5:zZ.tmps[5]?=some (.pointer (some ⟨gx,0,none⟩)):=hr 5 (by decide);have k0:=aE hB X.box.c0;have k1:=aE hB X.box.c1;exact Rg.aG rfl (by go_simp)
 ·intro _ zZ w_ hB hr
  have e15:=Rg.a_ (hr 15 (by decide));have ef:=Rg.ef zZ;refine Rg.aZ rfl (by go_simp;exact ⟨rfl,rfl⟩) ?_;refine (P1.out _ _ _ (aF.below ox.out hB)).mono ?_;rintro e w5 ⟨y_,rfl,yT,hb5⟩;exact ⟨_,rfl,aJ.at yT (by have:=hB.size;omega),hb5⟩
 ·intro _ zZ w_ hB hr
  have e5:zZ.tmps[5]?=some (.pointer (some ⟨gx,0,none⟩)):=hr 5 (by decide);have k0:=aE hB X.box.c0;have k1:=aE hB X.box.c1;exact Rg.aG rfl (by go_simp)
 ·intro _ zZ w_ hB hr
  obtain ⟨v16,e16,n16⟩:∃ v,zZ.tmps[16]?=some v∧(Rg.Val.at (aJ (wd.heap.size) (xq))).ok v w_:=hr 16 (by decide);obtain ⟨s16,a16,Ci,c16,BF,rfl,o16⟩:=(Rg.ag n16).view;have e17:=Rg.a_ (hr 17 (by decide));have ef:=Rg.ef zZ;refine Rg.aZ rfl (by go_simp;exact ⟨rfl,rfl⟩) ?_;obtain rfl:=BF.out;refine (P2.out _ _ _ _ _ o16 (aF.below ox.out hB)).mono ?_;rintro e w5 ⟨y_,rfl,yT,hb5⟩;exact ⟨_,rfl,aJ.at yT (by have:=hB.size;omega),hb5⟩
 ·intro _ zZ w_ hB hr
  have e5:zZ.tmps[5]?=some (.pointer (some ⟨gx,0,none⟩)):=hr 5 (by decide);have k0:=aE hB X.box.c0;have k1:=aE hB X.box.c1;exact Rg.aG rfl (by go_simp)
 ·intro _ zZ w_ hB hr
  have e7:zZ.tmps[7]?=some (.pointer (some ⟨w4.heap.size,0,none⟩)):=hr 7 (by decide);have k0:=aE hB T.box.c0;have k1:=aE hB T.box.c1;exact Rg.aG rfl (by go_simp)
 ·intro _ zZ w_ hB hr
  have e19:=Rg.a_ (hr 19 (by decide));have e20:=Rg.a_ (hr 20 (by decide));have ef:=Rg.ef zZ;refine Rg.aZ rfl (by go_simp;exact ⟨rfl,rfl⟩) ?_;refine (P3.out _ _ _ _ _ (aF.below ox.out hB) (aF.below o3.out hB)).mono ?_;rintro e w5 ⟨y_,rfl,yT,hb5⟩;exact ⟨_,rfl,aJ.at yT (by have:=hB.size;omega),hb5⟩
 ·intro _ zZ w_ hB hr
  have e2:zZ.tmps[2]?=some (.pointer (some ⟨w.heap.size,0,none⟩)):=hr 2 (by decide);exact Rg.aG rfl (by go_simp)
 ·intro _ zZ w_ hB hr
  have e22:=Rg.a_ (hr 22 (by decide));have k0:=aE hB C.box.c0;exact Rg.aG rfl (by go_simp)
 ·intro _ zZ w_ hB hr
  obtain ⟨v21,e21,n21⟩:∃ v,zZ.tmps[21]?=some v∧(Rg.Val.at (aJ (wd.heap.size) (xz))).ok v w_:=hr 21 (by decide);obtain ⟨s21,a21,l21,c21,MY,rfl,o21⟩:=(Rg.ag n21).view;have e23:=Rg.a_ (hr 23 (by decide));have ef:=Rg.ef zZ;refine Rg.aZ rfl (by go_simp;exact ⟨rfl,rfl⟩) ?_;obtain rfl:=MY.out;refine (P4.out _ _ _ o21).mono ?_;rintro e w5 ⟨y_,rfl,yT,hb5⟩;exact ⟨_,rfl,aJ.at yT (by have:=hB.size;omega),hb5⟩
 ·intro _ zZ w_ hB hr
  obtain ⟨v18,e18,n18⟩:∃ v,zZ.tmps[18]?=some v∧(Rg.Val.at (aJ (wd.heap.size) (xc))).ok v w_:=hr 18 (by decide);obtain ⟨s18,a18,l18,c18,GG,rfl,NF⟩:=(Rg.ag n18).view;obtain ⟨v24,e24,n24⟩:∃ v,zZ.tmps[24]?=some v∧(Rg.Val.at (aJ (wd.heap.size) (xa))).ok v w_:=hr 24 (by decide);obtain ⟨s24,a24,EH,c24,C4,rfl,G0⟩:=(Rg.ag n24).view;have ef:=Rg.ef zZ;refine Rg.aZ rfl (by go_simp;exact ⟨rfl,rfl⟩) ?_;obtain rfl:=GG.out;obtain rfl:=C4.out;refine (P5.out _ _ _ _ _ NF G0).mono ?_;rintro e w5 ⟨y_,rfl,yT,hb5⟩;exact ⟨_,rfl,aJ.at yT (by have:=hB.size;omega),hb5⟩
 ·intro _ zZ w_ hB hr
  exact ⟨by have:=hB.size;omega,rfl,by first | (go_simp;done) | (go_simp;rfl)⟩
 intro vals wz hB hv hne;have n8:(Rg.Val.new (wd.heap.size) 136 #[.bool false,.slice none 0 0]).ok (vals 11) wz:=hv 11 (by decide);have n25:(Rg.Val.at (aJ (wd.heap.size) (S1))).ok (vals 10) wz:=hv 10 (by decide);simp only [Rg.ak,Rg.fill,Act.put,Nat.reduceAdd];clear hv;obtain ⟨g8,F0,zg,o8⟩:=n8;replace o8:aH wz g8 136 #[.bool false,.slice none 0 0]:=o8;obtain ⟨Ij,a25,IP,He,Ma,yt,JN⟩:=(Rg.ag n25).view;simp only [zg,yt];clear zg yt;have hB2:Below wd.heap.size wd ((wz.setCell ⟨g8,0,none⟩ (.bool Ij)).setCell ⟨g8,1,none⟩ (.slice a25 IP He)):=yK (yK hB F0 _) F0 _;have U:=aH.set2 o8 (.bool Ij) (.slice a25 IP He);have oU:=yI (aF.bE JN o8 (by decide) (.bool Ij) (.slice a25 IP He));have ⟨c0,c1,f0,f1,_⟩:=o8.box;unfold Rg.aX Rg.aX Oper.wp
 go_simp
 clear c0 c1 f0 f1 o8 JN;generalize ((wz.setCell ⟨g8,0,none⟩ (.bool Ij)).setCell ⟨g8,1,none⟩ (.slice a25 IP He))=we at *;replace Z:=Z.keep hB2;replace C:=C.keep hB2;replace R:=R.keep hB2;replace T:=T.keep hB2;replace oz:=yI (aF.below oz.out hB2);replace o3:=yI (aF.below o3.out hB2);replace hw:=f_ hw hB2;have C9:wd.heap.size≤we.heap.size:=hB2.size
 go_upto_region 4 with fail
 clear hB2 hB;refine Rg.bJ 8 [.is (.agg #[.bool Ij,.slice a25 IP He]),.is (.agg #[.bool s2,.slice az lz cz]),.is (.agg #[.bool s3,.slice a3 l3 k3]),.at (aJ (we.heap.size) (zc)),.is (.pointer (some ⟨w.heap.size,1,none⟩)),.is (.int .i64 b),.at (aJ (we.heap.size) (zb)),.at (aJ (we.heap.size) (S2))] (by kernel_rfl) (by kernel_rfl) (by kernel_rfl) ⟨?_,?_,?_,?_,?_,?_,?_,?_,fun h_=>absurd h_ (by decide),trivial⟩ ?_
 ·intro _ zZ w_ hB hr
  have e8:zZ.tmps[8]?=some (.pointer (some ⟨g8,0,none⟩)):=hr 8 (by decide);have k0:=aE hB U.box.c0;have k1:=aE hB U.box.c1;exact Rg.aG rfl (by go_simp)
 ·intro _ zZ w_ hB hr
  have e6:zZ.tmps[6]?=some (.pointer (some ⟨gz,0,none⟩)):=hr 6 (by decide);have k0:=aE hB Z.box.c0;have k1:=aE hB Z.box.c1;exact Rg.aG rfl (by go_simp)
 ·intro _ zZ w_ hB hr
  have e7:zZ.tmps[7]?=some (.pointer (some ⟨w4.heap.size,0,none⟩)):=hr 7 (by decide);have k0:=aE hB T.box.c0;have k1:=aE hB T.box.c1;exact Rg.aG rfl (by go_simp)
 ·intro _ zZ w_ hB hr
  have e27:=Rg.a_ (hr 27 (by decide));have e28:=Rg.a_ (hr 28 (by decide));have ef:=Rg.ef zZ;refine Rg.aZ rfl (by go_simp;exact ⟨rfl,rfl⟩) ?_;refine (P6.out _ _ _ _ _ (aF.below oz.out hB) (aF.below o3.out hB)).mono ?_;rintro e w5 ⟨y_,rfl,yT,hb5⟩;exact ⟨_,rfl,aJ.at yT (by have:=hB.size;omega),hb5⟩
 ·intro _ zZ w_ hB hr
  have e2:zZ.tmps[2]?=some (.pointer (some ⟨w.heap.size,0,none⟩)):=hr 2 (by decide);exact Rg.aG rfl (by go_simp)
 ·intro _ zZ w_ hB hr
  have e30:=Rg.a_ (hr 30 (by decide));have k1:=aE hB C.box.c1;exact Rg.aG rfl (by go_simp)
 ·intro _ zZ w_ hB hr
  obtain ⟨v29,e29,n29⟩:∃ v,zZ.tmps[29]?=some v∧(Rg.Val.at (aJ (we.heap.size) (zc))).ok v w_:=hr 29 (by decide);obtain ⟨s29,a29,l29,c29,Mb,rfl,o29⟩:=(Rg.ag n29).view;have e31:=Rg.a_ (hr 31 (by decide));have ef:=Rg.ef zZ;refine Rg.aZ rfl (by go_simp;exact ⟨rfl,rfl⟩) ?_;obtain rfl:=Mb.out;refine (P7.out _ _ _ o29).mono ?_;rintro e w5 ⟨y_,rfl,yT,hb5⟩;exact ⟨_,rfl,aJ.at yT (by have:=hB.size;omega),hb5⟩
 ·intro _ zZ w_ hB hr
  have e26:=Rg.a_ (hr 26 (by decide));obtain ⟨v32,e32,n32⟩:∃ v,zZ.tmps[32]?=some v∧(Rg.Val.at (aJ (we.heap.size) (zb))).ok v w_:=hr 32 (by decide);obtain ⟨s32,a32,l32,c32,GK,rfl,o32⟩:=(Rg.ag n32).view;have ef:=Rg.ef zZ;refine Rg.aZ rfl (by go_simp;exact ⟨rfl,rfl⟩) ?_;obtain rfl:=GK.out;rw [Ma.out];refine (P8.out _ _ _ _ _ (aF.below oU.out hB) o32).mono ?_;rintro e w5 ⟨y_,rfl,yT,hb5⟩;exact ⟨_,rfl,aJ.at yT (by have:=hB.size;omega),hb5⟩
 intro vals wy hB hv hne;have n33:(Rg.Val.at (aJ (we.heap.size) (S2))).ok (vals 7) wy:=hv 7 (by decide);simp only [Rg.ak,Rg.fill,Act.put,Nat.reduceAdd];clear hv;obtain ⟨Eu,a33,Es,EZ,Dr,BI,GT⟩:=(Rg.ag n33).view;simp only [BI];clear BI;have U2:=U.keep hB;have hB2:Below wd.heap.size we ((wy.setCell ⟨g8,0,none⟩ (.bool Eu)).setCell ⟨g8,1,none⟩ (.slice a33 Es EZ)):=yK (yK (hB.mono C9) F0 _) F0 _;have oS:=yI (aF.bE GT U2 (by decide) (.bool Eu) (.slice a33 Es EZ));have U3:=aH.set2 U2 (.bool Eu) (.slice a33 Es EZ)
 have hgz9:gz<wd.heap.size∧w.heap.size+1+1<wd.heap.size:=⟨Hq,by have:=C8;omega⟩
 have Z5:aH ((wy.setCell ⟨g8,0,none⟩ (.bool Eu)).setCell ⟨g8,1,none⟩ (.slice a33 Es EZ)) gz 136 #[.bool s2,.slice az lz cz]:=((Z.keep hB).other (by omega) _).other (by omega) _;have R5:aH ((wy.setCell ⟨g8,0,none⟩ (.bool Eu)).setCell ⟨g8,1,none⟩ (.slice a33 Es EZ)) (w.heap.size+1+1) 136 #[.bool false,.slice none 0 0]:=((R.keep hB).other (by omega) _).other (by omega) _;have oz5:=yI (aF.bE (aF.below oz.out hB) U2 (by decide) (.bool Eu) (.slice a33 Es EZ));have Gx:=hw.trans (hB2.mono (show w.heap.size≤wd.heap.size by omega));have ⟨c0,c1,f0,f1,_⟩:=U2.box;unfold Rg.aX Rg.aX Oper.wp
 go_simp
 clear c0 c1 f0 f1 U2;generalize ((wy.setCell ⟨g8,0,none⟩ (.bool Eu)).setCell ⟨g8,1,none⟩ (.slice a33 Es EZ))=wf at *;have y0:=Z5.box.c0;have y1:=Z5.box.c1;have y2:=U3.box.c0;have y3:=U3.box.c1;obtain rfl:=Dr.out
 go_wp2_with (first | (go_at_call 156;(with_reducible refine (P9.out _ _ _ _ _ oz5.out oS.out).mono ?_);rintro e w6 ⟨v6,rfl,FE,hb6⟩;obtain ⟨a6,k6,rfl,ML,hv6⟩:=aF.view FE;clear ML hv6;have zw:=(show aF _ _ _ _ from FE)) | (go_at_call 157;(with_reducible refine (PA.out _ _ _ zw).mono ?_);rintro e w7 ⟨v7,rfl,Ap,yi⟩;obtain ⟨a7,k7,rfl,hm7,hv7⟩:=aF.view Ap;clear hm7 hv7;have R7:=(R5.keep hb6).keep yi;(have ⟨c0,c1,f0,f1,_⟩:=R7.box)))
 generalize decide (F<0)=s7,(Wh.d_ F.natAbs).length=l7 at *;have L6:=Gx.trans ((hb6.mono Gx.size).trans (yi.mono (Nat.le_trans Gx.size hb6.size)));have hr1:=aF.base (aF.bE Ap R7 (by decide) (.bool s7) (.slice a7 l7 k7)) (show w.heap.size≤w6.heap.size from Nat.le_trans Gx.size hb6.size);have hr2:Below w.heap.size w ((w7.setCell ⟨w.heap.size+1+1,0,none⟩ (.bool s7)).setCell ⟨w.heap.size+1+1,1,none⟩ (.slice a7 l7 k7)):=yK (yK L6 (by simp <;> omega) _) (by simp <;> omega) _;exact bodyPost_ret (v:=.agg #[.bool s7,.slice a7 l7 k7]) (by simp [results,Tryz.results143,go_sem, *]) rfl (⟨_,rfl,hr1,hr2⟩)
end
end Go.Proofs.YtgfkcoablfjbcaaGreat
