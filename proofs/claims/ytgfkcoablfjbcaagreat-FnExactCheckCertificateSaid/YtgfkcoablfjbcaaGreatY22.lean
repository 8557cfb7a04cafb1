/-
  Joined texts: contracts and plain lemmas.
-/
import Derived.Test.YtgfkcoablfjbcaaGreatY1
import Derived.Test.YtgfkcoablfjbcaaGreatY21
import Derived.Test.YtgfkcoablfjbcaaGreatY15
import Derived.Test.YtgfkcoablfjbcaaGreatY8
set_option linter.unusedSimpArgs false
set_option linter.unusedVariables false
set_option maxRecDepth 100000
set_option maxHeartbeats 8000000
namespace Go.Proofs.YtgfkcoablfjbcaaGreat
section
open Go Go.RowKit
namespace Rg
variable {P:Program} {Q:Exit→Act→World→Prop}
def upd (l:Nat→Bool) (i:Nat):Nat→Bool:=fun j=>if j=i then true else l j
def dP (v:Nat→Value) (i:Nat) (u:Value):Nat→Value:=fun j=>if j=i then u else v j
def iv (md:Region.Mode) (ops:Array Oper) (l:Nat→Bool):Prop:=∀ i o,ops[i]?=some o→l i=true→∀ e ∈ o.after,Region.binds md e=true→l e.on=true
section
variable (P) (Q) (md:Region.Mode) (ops:Array Oper) (I:(Nat→Bool)→(Nat→Value)→World→Prop) (a0:Act)
def kA (i:Nat) (o:Oper) (a:Act) (w:World) (l:Nat→Bool) (vals:Nat→Value):Prop:=
 if Region.wanted o (yielded ops a.tmps)=true then o.wp P a w (fun a' w'=>∃ v,a'=a.put o.dst v∧I (upd l i) (dP vals i v) w') Q else I (upd l i) (dP vals i undef) w
def wF (i:Nat) (o:Oper):Prop:=∀ (a:Act) (w:World) (l:Nat→Bool) (vals:Nat→Value),I l vals w→l i=false→iv md ops l→(∀ e ∈ o.after,Region.binds md e=true→l e.on=true)→(∀ t ∈ o.looksAt ops,a.tmps[t]?=rd md ops a0 vals o t)→kA P Q ops I i o a w l vals
def ft:List Oper→Nat→Prop
 | [],_=>True
 | o :: os,k=>wF P Q md ops I a0 k o∧ft os (k+1)
theorem ft.at {os:List Oper} {k:Nat} (h:ft P Q md ops I a0 os k):∀ {i:Nat} {o:Oper},os[i]?=some o→wF P Q md ops I a0 (k+i) o:=by
 induction os generalizing k with
 | nil=>intro i o hi;simp at hi
 | cons x os ih=>
 intro i o hi
 cases i with
 | zero=>
  simp only [List.getElem?_cons_zero,Option.some.injEq] at hi
  subst hi
  exact h.1
 | succ i=>
 have:=ih h.2 (i:=i) (o:=o) (by simpa using hi)
 rw [show k+(i+1)=k+1+i from by omega]
 exact this
def wB (L:Array Bool) (a:Act) (w:World):Prop:=
 L.size=ops.size∧iv md ops (fun j=>L.getD j false)∧
 ∃ vals:Nat→Value,I (fun j=>L.getD j false) vals w∧a=fill (fun j=>L.getD j false) vals ops.toList 0 a0
end
theorem ue {md:Region.Mode} {ops:Array Oper} {I:(Nat→Bool)→(Nat→Value)→World→Prop} {a0:Act} (hok:dz md ops a0.tmps.size=true)
  (hR:ft P Q md ops I a0 ops.toList 0) (hF:∀ (l:Nat→Bool) (vals:Nat→Value) (w:World),(∀ i,i<ops.size→l i=true)→I l vals w→Q .normal (fill (fun _=>true) vals ops.toList 0 a0) w) :
  ∀ (fuel:Nat) (L:Array Bool) (a:Act) (w:World),left (fun j=>L.getD j false) ops.size≤fuel→wB md ops I a0 L a w→wpAny P md ops Q fuel L a w:=by
 rw [dz,Bool.and_eq_true,Bool.and_eq_true] at hok
 obtain ⟨⟨hap,hrd⟩,hac⟩:=hok
 have hac':∀ i o,ops[i]?=some o→(∀ e ∈ o.after,Region.binds md e=true→e.on<i)∧∀ d,o.dst=some d→d<a0.tmps.size:=fun i o hi=>by
  have hlt:i<ops.size:=(Array.getElem?_eq_some_iff.1 hi).1
  have:=List.all_eq_true.1 hac i (List.mem_range.2 hlt)
  rw [hi] at this
  simp only [Bool.and_eq_true,List.all_eq_true,Bool.or_eq_true,Bool.not_eq_true',decide_eq_true_eq] at this
  refine ⟨fun e he hb=>?_,fun d hd=>?_⟩
  ·rcases this.1 e (Array.mem_toList_iff.2 he) with q | q
   ·rw [hb] at q;cases q
   exact q
  have:=this.2
  rw [hd] at this
  simpa using this
 have htl:∀ i,ops.toList[i]?=ops[i]?:=fun i=>Array.getElem?_toList
 have hall:∀ L:Array Bool,L.size=ops.size→Region.ready md ops L=[]→∀ i,i<ops.size→L.getD i false=true:=by
  intro L hL hr i
  induction i using Nat.strongRecOn with
  | ind i ih=>
  intro hi
  cases hl:L.getD i false
  ·exfalso
   have hm:i ∈ Region.ready md ops L:=by
    unfold Region.ready
    rw [List.mem_filter]
    refine ⟨List.mem_range.2 hi,?_⟩
    have hg:L.getD i true=false:=by
     rw [Array.getD_eq_getD_getElem?,Array.getElem?_eq_getElem (by omega)] at hl ⊢
     exact hl
    rw [hg,Array.getElem?_eq_getElem hi]
    simp only [Bool.not_false,Bool.true_and,Option.map_some,Option.getD_some]
    rw [Array.all_eq_true_iff_forall_mem]
    intro e he
    cases hb:Region.binds md e
    ·rfl
    have hlt:=(hac' i _ (Array.getElem?_eq_getElem hi)).1 e he hb
    simp [ih e.on hlt (by omega)]
   rw [hr] at hm
   cases hm
  rfl
 have hfin:∀ (L:Array Bool) (a:Act) (w:World),wB md ops I a0 L a w→Region.ready md ops L=[]→Q .normal a w:=by
  rintro L a w ⟨hL,-,vals,hS,rfl⟩ hr
  have h:=hall L hL hr
  rw [b8 (l':=fun _=>true) (v':=vals) ops.toList 0 a0 (fun j _ hj=>h j (by simpa using hj)) (fun _ _ _=>rfl)]
  exact hF _ vals w h hS
 intro fuel
 induction fuel with
 | zero=>
  intro L a w hl hI
  have hz:=fh _ (Nat.le_zero.1 hl)
  have hr:Region.ready md ops L=[]:=by
   unfold Region.ready
   rw [List.filter_eq_nil_iff]
   intro i hi
   have hi:=List.mem_range.1 hi
   have h1:=hz i hi
   have hg:L.getD i true=true:=by
    have hsz:=hI.1
    simp only [Array.getD_eq_getD_getElem?] at h1 ⊢
    rw [Array.getElem?_eq_getElem (by omega)] at h1 ⊢
    exact h1
   rw [hg]
   simp
  exact ⟨hr,hfin L a w hI hr⟩
 | succ fuel ih=>
 intro L a w hl hI
 refine ⟨hfin L a w hI,fun i hi=>?_⟩
 obtain ⟨hL,hdc,vals,hS,rfl⟩:=hI
 obtain ⟨hun,o,ho,haf⟩:=mem_ready.1 hi
 have hilt:i<ops.size:=(Array.getElem?_eq_some_iff.1 ho).1
 have hun':L.getD i false=false:=by
  simp only [Array.getD_eq_getD_getElem?] at hun ⊢
  rw [Array.getElem?_eq_getElem (by omega)] at hun ⊢
  exact hun
 have hq:=ft.at P Q md ops I a0 hR (i:=i) (o:=o) (by rw [htl];exact ho)
 rw [Nat.zero_add] at hq
 have hst:=hq (fill (fun j=>L.getD j false) vals ops.toList 0 a0) w (fun j=>L.getD j false) vals hS hun' hdc
  (fun e he hb=>haf e he hb)
  (fun t ht=>by
   unfold rd
   have hr1:gF md ops i o t=true:=by
    have:=List.all_eq_true.1 hrd i (List.mem_range.2 hilt)
    rw [ho] at this
    exact List.all_eq_true.1 this t ht
   cases hf:o.after.toList.find? (fun e=>Region.binds md e && ((ops[e.on]?).bind (·.dst)) == some t) with
   | some e=>
    have h1:=List.find?_some hf
    have h2:=List.mem_of_find?_eq_some hf
    rw [Bool.and_eq_true,beq_iff_eq] at h1
    obtain ⟨x,hx,hxd⟩:=Option.bind_eq_some_iff.1 h1.2
    have h3:=haf e (Array.mem_toList_iff.1 h2) h1.1
    have:=iZ (l:=fun j=>L.getD j false) (v:=vals) ops.toList 0 e.on x a0 hap (by rw [htl];exact hx) (by simpa using h3) hxd ((hac' e.on x hx).2 t hxd)
    rw [Nat.zero_add] at this
    exact this
   | none=>
   refine dx ops.toList 0 a0 fun j x hx hlj hxd=>?_
   rw [Nat.zero_add] at hlj
   rw [htl] at hx
   have hjlt:j<ops.size:=(Array.getElem?_eq_some_iff.1 hx).1
   rw [gF,Bool.or_eq_true] at hr1
   rcases hr1 with q | q
   ·obtain ⟨e,he,hp⟩:=List.any_eq_true.1 q
    have:=List.find?_eq_none.1 hf e he
    exact this hp
   have:=List.all_eq_true.1 q j (List.mem_range.2 hjlt)
   rw [hx] at this
   simp only [Bool.or_eq_true,bne_iff_ne,ne_eq,beq_iff_eq,List.any_eq_true,Bool.and_eq_true] at this
   rcases this with (q1 | q1) | ⟨e,he,hb,hon⟩
   ·exact q1 hxd
   ·subst q1
    rw [hun'] at hlj
    cases hlj
   have:L.getD e.on false=true:=hdc j x hx hlj e (Array.mem_toList_iff.1 he) hb
   rw [hon,hun'] at this
   cases this)
 have hnext:∀ (v:Value) (w':World),I (upd (fun j=>L.getD j false) i) (dP vals i v) w'→wpAny P md ops Q fuel (L.setIfInBounds i true) ((fill (fun j=>L.getD j false) vals ops.toList 0 a0).put o.dst v) w':=by
  intro v w' h2
  have e1:∀ j,(L.setIfInBounds i true).getD j false=if j=i then true else L.getD j false:=fun j=>by
   simp only [Array.getD_eq_getD_getElem?]
   by_cases hji:j=i
   ·subst hji
    rw [Array.getElem?_setIfInBounds_self_of_lt (by omega)]
    simp
   rw [Array.getElem?_setIfInBounds_ne (fun e=>hji e.symm),if_neg hji]
  have e2:(fun j=>(L.setIfInBounds i true).getD j false)=upd (fun j=>L.getD j false) i:=funext e1
  refine ih _ _ _ ?_ ⟨by simpa using hL,?_,dP vals i v,by rw [e2];exact h2,?_⟩
  ·have:=gQ (l:=fun j=>L.getD j false) (l':=fun j=>(L.setIfInBounds i true).getD j false) hun' (by rw [e1,if_pos rfl]) (fun j hj=>by rw [e1,if_neg hj]) ops.size hilt
   omega
  ·intro j x hx hlj e he hb
   show (L.setIfInBounds i true).getD e.on false=true
   replace hlj:(L.setIfInBounds i true).getD j false=true:=hlj
   rw [e1] at hlj ⊢
   split
   ·rfl
   split at hlj
   ·rename_i hji
    subst hji
    rw [ho] at hx
    cases hx
    exact haf e he hb
   exact hdc j x hx hlj e he hb
  rw [gO ops.toList 0 i o a0 hap (by rw [htl];exact ho) (by simpa using hun')]
  rw [Nat.zero_add]
  exact b8 _ _ _ (fun j _ _=>(e1 j).symm) (fun _ _ _=>rfl)
 unfold wpOp
 rw [ho]
 unfold kA at hst
 dsimp only
 split at hst
 ·rename_i hw
  rw [if_pos hw]
  refine Or.inl (Oper.wp_mono ?_ hst)
  rintro a' w' ⟨v,rfl,h2⟩
  exact hnext v w' h2
 rename_i hw
 rw [if_neg hw]
 exact hnext undef w hst
theorem io {id:Nat} {ops:Array Oper} {a0:Act} {w:World} (I:(Nat→Bool)→(Nat→Value)→World→Prop) (hm:P.follows .mixedOrders=true) (hok:dz .any ops a0.tmps.size=true)
  (hS:∀ vals,I (fun _=>false) vals { w with drawn:=w.drawn+1 }) (hR:ft P Q .any ops I a0 ops.toList 0)
  (hF:∀ (l:Nat→Bool) (vals:Nat→Value) (w:World),(∀ i,i<ops.size→l i=true)→I l vals w→Q .normal (fill (fun _=>true) vals ops.toList 0 a0) w):(Code.region id ops true).wp P Q a0 w:=by
 have rep:∀ j,(Array.replicate ops.size false).getD j false=false:=fun j=>by
  rw [Array.getD_eq_getD_getElem?,Array.getElem?_replicate]
  split <;> rfl
 refine wp_region_any hm (ue hok hR hF _ _ _ _ ?_ ⟨by simp,?_,fun _=>undef,?_,?_⟩)
 ·have:∀ (l:Nat→Bool) n,left l n≤n:=fun l n=>by
   induction n with
   | zero=>exact xA _
   | succ n ih=>unfold left;split <;> omega
  exact this _ _
 ·intro i o hi hl
  replace hl:(Array.replicate ops.size false).getD i false=true:=hl
  rw [rep] at hl
  cases hl
 ·rw [show (fun j=>(Array.replicate ops.size false).getD j false)=fun _=>false from funext rep]
  exact hS _
 have:∀ (v:Nat→Value) (os:List Oper) (k:Nat) (a:Act),fill (fun _=>false) v os k a=a:=fun v os=>by
  induction os with
  | nil=>intro k a;rfl
  | cons x os ih=>intro k a;unfold fill;simp [ih]
 exact (this _ ops.toList 0 a0).symm.trans (b8 _ _ _ (fun j _ hj=>(rep j).symm) (fun _ _ _=>rfl))
end Rg
namespace Rg
variable {P:Program} {Q:Exit→Act→World→Prop}
def cnt (l:Nat→Bool):List Nat→Nat
 | []=>0
 | c :: cs=>if l c=true then cnt l cs+1 else 0
def gh (ops:Array Oper) (c d:Nat):Bool:=match ops[d]? with
 | some o=>o.after.toList.any (fun e=>Region.binds .any e && e.on == c)
 | none=>false
def dI (ops:Array Oper):List Nat→Bool
 | c :: d :: cs=>gh ops c d && decide (c<d) && dI ops (d :: cs)
 | _=>true
theorem dF {ops:Array Oper} {l:Nat→Bool} {c d:Nat} (hc:iv .any ops l) (he:gh ops c d=true) (hd:l d=true):l c=true:=by
 unfold gh at he
 split at he
 ·rename_i o ho
  obtain ⟨e,h1,h2⟩:=List.any_eq_true.1 he
  rw [Bool.and_eq_true,beq_iff_eq] at h2
  have:=hc d o ho hd e (Array.mem_toList_iff.1 h1) h2.1
  rw [h2.2] at this
  exact this
 cases he
theorem eO {ops:Array Oper} {l:Nat→Bool} {c d:Nat} {o:Oper} (ho:ops[d]?=some o) (hdep:∀ e ∈ o.after,Region.binds .any e=true→l e.on=true) (he:gh ops c d=true):l c=true:=by
 unfold gh at he
 rw [ho] at he
 obtain ⟨e,h1,h2⟩:=List.any_eq_true.1 he
 rw [Bool.and_eq_true,beq_iff_eq] at h2
 have:=hdep e (Array.mem_toList_iff.1 h1) h2.1
 rw [h2.2] at this
 exact this
theorem ej {l:Nat→Bool} {k:Nat}:∀ C:List Nat,k ∉ C→cnt (upd l k) C=cnt l C
 | [],_=>rfl
 | c :: cs,h=>by
  have h1:c≠k:=fun e=>h (by rw [e];exact List.mem_cons_self ..)
  have e:upd l k c=l c:=if_neg h1
  unfold cnt
  rw [e,ej cs (fun hk=>h (List.mem_cons_of_mem _ hk))]
theorem gL {ops:Array Oper} {l:Nat→Bool} {k:Nat} (hc:iv .any ops l) (hk:l k=false) (hdep:∀ c,gh ops c k=true→l c=true):∀ C:List Nat,dI ops C=true→k ∈ C→cnt l C=C.idxOf k∧cnt (upd l k) C=C.idxOf k+1
 | [],_,h=>by cases h
 | [c],_,h=>by
  rcases List.mem_cons.1 h with rfl | h
  ·have e:upd l k k=true:=if_pos rfl
   unfold cnt cnt
   rw [hk,e]
   simp
  cases h
 | c :: d :: cs,ho,h=>by
  unfold dI at ho
  rw [Bool.and_eq_true,Bool.and_eq_true,decide_eq_true_eq] at ho
  obtain ⟨⟨he,hlt⟩,ho⟩:=ho
  by_cases hkc:k=c
  ·subst hkc
   have e:upd l k k=true:=if_pos rfl
   have hd:l d=false:=by
    cases hd:l d
    ·rfl
    rw [dF hc he hd] at hk;cases hk
   have e2:upd l k d=false:=(if_neg (by omega)).trans hd
   have i0:(k :: d :: cs).idxOf k=0:=by simp
   rw [i0]
   unfold cnt
   rw [hk,e]
   unfold cnt
   rw [e2]
   simp
  have hm:k ∈ d :: cs:=(List.mem_cons.1 h).resolve_left hkc
  obtain ⟨h1,h2⟩:=gL hc hk hdep (d :: cs) ho hm
  have hlc:l c=true:=by
   by_cases hkd:k=d
   ·subst hkd;exact hdep c he
   have:l d=true:=by
    cases hd:l d
    ·exfalso
     have z:cnt l (d :: cs)=0:=by unfold cnt;rw [hd];rfl
     have:(d :: cs).idxOf k≠0:=by
      rw [List.idxOf_cons]
      have:(d == k)=false:=by rw [beq_eq_false_iff_ne];exact fun e=>hkd e.symm
      rw [this]
      simp
     omega
    rfl
   exact dF hc he this
  have e:upd l k c=l c:=if_neg (fun e=>hkc e.symm)
  have i0:(c :: d :: cs).idxOf k=(d :: cs).idxOf k+1:=by
   rw [List.idxOf_cons]
   have:(c == k)=false:=by rw [beq_eq_false_iff_ne];exact fun e=>hkc e.symm
   rw [this]
   rfl
  rw [i0]
  unfold cnt
  rw [e,hlc,if_pos rfl,if_pos rfl,h1,h2]
  exact ⟨rfl,rfl⟩
theorem eh {g:Nat} {w1 w w':World} {Tb:TypeId} {x u v y:Value} (h:Below w1.heap.size (w1.setCell ⟨g,0,none⟩ x) w) (K1:aH w1 g Tb #[u]) (K:aH w g Tb #[v]) (hb:Below w.heap.size (w.setCell ⟨g,0,none⟩ y) w'):Below w1.heap.size (w1.setCell ⟨g,0,none⟩ y) w':=by
 have hs:w1.heap.size≤w.heap.size:=by have:=h.size;rw [aZ] at this;exact this
 refine ⟨hb.os.trans h.os,hb.tape.trans h.tape,hb.output.trans h.output,?_,fun k hk=>?_⟩
 ·rw [aZ]
  have:=hb.size
  rw [aZ] at this
  omega
 rw [hb.block k (by omega)]
 by_cases hg:k=g
 ·subst hg
  exact (K.one y).trans (K1.one y).symm
 rw [Below.heap_setCell _ _ _ _ hg,h.block k hk,Below.heap_setCell _ _ _ _ hg,Below.heap_setCell _ _ _ _ hg]
theorem dt {g:Nat} {w w':World} {Tb:TypeId} {v:Value} (K:aH w g Tb #[v]) (hb:Below w.heap.size w w'):Below w.heap.size (w.setCell ⟨g,0,none⟩ v) w':=by
 refine ⟨hb.os,hb.tape,hb.output,by rw [aZ];exact hb.size,fun k hk=>?_⟩
 rw [hb.block k hk]
 by_cases hg:k=g
 ·subst hg;exact K.trans (K.one v).symm
 rw [Below.heap_setCell _ _ _ _ hg]
section
variable (P) (Q) (ops:Array Oper) (a0:Act) (T:List Val) (w1:World) (g:Nat) (Tb:TypeId) (F:Nat→Value) (C:List Nat) (ka ks:Nat) (Tn:TypeId) (xs ys:Array Value)
def Held (w:World):Prop:=w1.heap.size≤w.heap.size∧∀ (b:Nat) (U:TypeId) (zs:Array Value),b≠g→aH w1 b U zs→aH w b U zs
def oi (h:Nat) (o:Oper) (a:Act) (w:World) (t:Nat):Prop:=
 match o.after.toList.find? (fun e=>Region.binds .any e && ((ops[e.on]?).bind (·.dst)) == some t) with
 | some e=>if e.on=ka then a.tmps[t]?=some (.pointer (some ⟨h,0,none⟩)) else if e.on=ks then True else ∃ v,a.tmps[t]?=some v∧(tbl T e.on).ok v w
 | none=>a.tmps[t]?=a0.tmps[t]?
def iy (o:Oper) (a:Act) (w:World) (t:Nat):Prop:=
 match o.after.toList.find? (fun e=>Region.binds .any e && ((ops[e.on]?).bind (·.dst)) == some t) with
 | some e=>if e.on=ka then True else if e.on=ks then True else ∃ v,a.tmps[t]?=some v∧(tbl T e.on).ok v w
 | none=>a.tmps[t]?=a0.tmps[t]?
def bc (k:Nat) (o:Oper):Prop:=
 if k=ka then ∀ (a:Act) (w:World),Region.wanted o (yielded ops a.tmps)=true∧o.wp P a w (fun a' w'=>a'=a.put o.dst (.pointer (some ⟨w.heap.size,0,none⟩))∧w'=w.alloc (.cells xs Tn)) Q
 else if k=ks then ∀ (a:Act) (w:World) (h:Nat),w1.heap.size≤h→aH w h Tn xs→(∀ t ∈ o.looksAt ops,oi ops a0 T ka ks h o a w t)→Region.wanted o (yielded ops a.tmps)=true∧o.wp P a w (fun a' w'=>(∃ v,a'=a.put o.dst v)∧aH w' h Tn ys∧Below w1.heap.size w w') Q
 else if k ∈ C then ∀ (a:Act) (w:World),aH w g Tb #[F (C.idxOf k)]→Held w1 g w→(∀ t ∈ o.looksAt ops,iy ops a0 T ka ks o a w t)→Region.wanted o (yielded ops a.tmps)=true∧o.wp P a w (fun a' w'=>∃ v,a'=a.put o.dst v∧(tbl T k).ok v w'∧Below w.heap.size (w.setCell ⟨g,0,none⟩ (F (C.idxOf k+1))) w') Q
 else ∀ (a:Act) (w:World),Held w1 g w→(∀ t ∈ o.looksAt ops,iy ops a0 T ka ks o a w t)→Does P ops Q (tbl T k) o a w
def q7:List Oper→Nat→Prop
 | [],_=>True
 | o :: os,k=>bc P Q ops a0 T w1 g Tb F C ka ks Tn xs ys k o∧q7 os (k+1)
def u7 (l:Nat→Bool) (vals:Nat→Value) (w:World):Prop:=
 Below w1.heap.size (w1.setCell ⟨g,0,none⟩ (F (cnt l C))) w∧(∀ i,i≠ka→i≠ks→l i=true→(tbl T i).ok (vals i) w)∧(l ka=true→∃ h,w1.heap.size≤h∧vals ka=.pointer (some ⟨h,0,none⟩)∧aH w h Tn (if l ks=true then ys else xs))
end
theorem tE {ops:Array Oper} {a0:Act} {T:List Val} {w1:World} {g:Nat} {Tb:TypeId} {F:Nat→Value} {C:List Nat} {ka ks:Nat} {Tn:TypeId} {xs ys:Array Value}
  (K1:aH w1 g Tb #[F 0]) (hp:∀ j,j≠ka→j≠ks→(tbl T j).pure=true) (hC:dI ops C=true) (hka:ka ∉ C) (hks:ks ∉ C) (hne:ka≠ks) (hE:gh ops ka ks=true) :
  ∀ (os:List Oper) (k:Nat),(∀ i,os[i]?=ops[k+i]?)→q7 P Q ops a0 T w1 g Tb F C ka ks Tn xs ys os k→ft P Q .any ops (u7 T w1 g F C ka ks Tn xs ys) a0 os k
 | [],_,_,_=>trivial
 | o :: os,k,hos,h=>by
  refine ⟨fun a w l vals hI hl hc hdep hr=>?_,tE K1 hp hC hka hks hne hE os (k+1) (fun i=>by rw [show k+1+i=k+(i+1) by omega,←hos (i+1)];rfl) h.2⟩
  obtain ⟨hB,hv,hn⟩:=hI
  have ho:ops[k]?=some o:=(hos 0).symm
  have hgl:g<w1.heap.size:=K1.lt
  have hsz:w1.heap.size≤w.heap.size:=by have:=hB.size;rw [aZ] at this;exact this
  have K:aH w g Tb #[F (cnt l C)]:=(K1.one (F (cnt l C))).keep (bD hB)
  have hH:Held w1 g w:=⟨hsz,fun b U zs hb hz=>(hz.other hb _).keep (bD hB)⟩
  have hQ:∀ t ∈ o.looksAt ops,iy ops a0 T ka ks o a w t:=fun t ht=>by
   have:=hr t ht
   unfold rd at this
   unfold iy
   split
   ·rename_i e he
    rw [he] at this
    have h2:=List.find?_some he
    rw [Bool.and_eq_true] at h2
    split
    ·trivial
    split
    ·trivial
    rename_i n1 n2
    exact ⟨_,this,hv _ n1 n2 (hdep e (Array.mem_toList_iff.1 (List.mem_of_find?_eq_some he)) h2.1)⟩
   rename_i he
   rw [he] at this
   exact this
  have hko:∀ j,j≠k→upd l k j=l j:=fun j hj=>if_neg hj
  have hkk:upd l k k=true:=if_pos rfl
  have h1:=h.1
  unfold bc at h1
  unfold kA
  by_cases e1:k=ka
  ·rw [if_pos e1] at h1
   obtain ⟨hw,hwp⟩:=h1 a w
   rw [if_pos hw]
   refine Oper.wp_mono ?_ hwp
   rintro a' w' ⟨rfl,rfl⟩
   subst e1
   have hls:l ks=false:=by
    cases q:l ks
    ·rfl
    rw [dF hc hE q] at hl;cases hl
   refine ⟨_,rfl,?_,?_,fun _=>⟨w.heap.size,hsz,if_pos rfl,?_⟩⟩
   ·rw [ej C hka]
    exact hB.alloc hsz _
   ·intro i n1 n2 hi
    rw [hko i n1] at hi
    have:dP vals k (.pointer (some ⟨w.heap.size,0,none⟩)) i=vals i:=if_neg n1
    rw [this]
    exact Val.dV (hp i n1 n2) (hv i n1 n2 hi)
   rw [hko ks (fun e=>hne e.symm),hls]
   exact aH.new w xs Tn
  rw [if_neg e1] at h1
  by_cases e2:k=ks
  ·rw [if_pos e2] at h1
   subst e2
   obtain ⟨hh,hh1,hh2,hh3⟩:=hn (eO ho hdep hE)
   rw [hl] at hh3
   obtain ⟨hw,hwp⟩:=h1 a w hh hh1 hh3 (fun t ht=>by
    have:=hr t ht
    unfold rd at this
    unfold oi
    split
    ·rename_i e he
     rw [he] at this
     have h2:=List.find?_some he
     rw [Bool.and_eq_true] at h2
     split
     ·rename_i q
      replace this:a.tmps[t]?=some (vals e.on):=this
      rw [q,hh2] at this
      exact this
     split
     ·trivial
     rename_i n1 n2
     exact ⟨_,this,hv _ n1 n2 (hdep e (Array.mem_toList_iff.1 (List.mem_of_find?_eq_some he)) h2.1)⟩
    rename_i he
    rw [he] at this
    exact this)
   rw [if_pos hw]
   refine Oper.wp_mono ?_ hwp
   rintro a' w' ⟨⟨v,e⟩,h2,h3⟩
   refine ⟨v,e,?_,?_,fun _=>⟨hh,hh1,?_,?_⟩⟩
   ·rw [ej C hks]
    exact hB.trans h3
   ·intro i n1 n2 hi
    rw [hko i n2] at hi
    have:dP vals k v i=vals i:=if_neg n2
    rw [this]
    exact Val.dV (hp i n1 n2) (hv i n1 n2 hi)
   ·have:dP vals k v ka=vals ka:=if_neg hne
    rw [this];exact hh2
   rw [hkk];exact h2
  rw [if_neg e2] at h1
  have rest:∀ (v:Value) (w':World) (y:Value),y=F (cnt (upd l k) C)→(tbl T k).ok v w'→Below w.heap.size (w.setCell ⟨g,0,none⟩ y) w'→u7 T w1 g F C ka ks Tn xs ys (upd l k) (dP vals k v) w':=by
   intro v w' y hy h2 h3
   subst hy
   refine ⟨eh hB K1 K h3,?_,?_⟩
   ·intro i n1 n2 hi
    by_cases hik:i=k
    ·subst hik
     have:dP vals i v i=v:=if_pos rfl
     rw [this];exact h2
    rw [hko i hik] at hi
    have:dP vals k v i=vals i:=if_neg hik
    rw [this]
    exact Val.dV (hp i n1 n2) (hv i n1 n2 hi)
   intro hi
   rw [hko ka (fun e=>e1 e.symm)] at hi
   obtain ⟨hh,hh1,hh2,hh3⟩:=hn hi
   refine ⟨hh,hh1,?_,?_⟩
   ·have:dP vals k v ka=vals ka:=if_neg (fun e=>e1 e.symm)
    rw [this];exact hh2
   rw [hko ks (fun e=>e2 e.symm)]
   exact (hh3.other (by omega) _).keep (bD h3)
  by_cases e3:k ∈ C
  ·rw [if_pos e3] at h1
   obtain ⟨q1,q2⟩:=gL hc hl (fun c hcd=>eO ho hdep hcd) C hC e3
   rw [q1] at K
   obtain ⟨hw,hwp⟩:=h1 a w K hH hQ
   rw [if_pos hw]
   refine Oper.wp_mono ?_ hwp
   rintro a' w' ⟨v,e,h2,h3⟩
   exact ⟨v,e,rest v w' _ (by rw [q2]) h2 h3⟩
  rw [if_neg e3] at h1
  have hd:=h1 a w hH hQ
  unfold Does at hd
  split
  ·rename_i hw
   rw [if_pos hw] at hd
   refine Oper.wp_mono ?_ hd
   rintro a' w' ⟨v,e,h2,h3⟩
   exact ⟨v,e,rest v w' _ (by rw [ej C e3]) h2 (dt K h3)⟩
  rename_i hw
  rw [if_neg hw] at hd
  exact rest undef w _ (by rw [ej C e3]) hd (dt K (ww _ _))
theorem uw {id:Nat} {ops:Array Oper} {a0:Act} {w:World} (g:Nat) (Tb:TypeId) (F:Nat→Value) (C:List Nat) (ka ks:Nat) (Tn:TypeId) (xs ys:Array Value) (T:List Val)
  (hm:P.follows .mixedOrders=true) (hok:dz .any ops a0.tmps.size=true) (hC:(dI ops C && gh ops ka ks && decide (ka<ops.size) && decide (ks<ops.size))=true)
  (hp:∀ j,j≠ka→j≠ks→(tbl T j).pure=true) (hka:ka ∉ C) (hks:ks ∉ C) (hne:ka≠ks) (hcl:∀ c ∈ C,c<ops.size) (K1:aH w g Tb #[F 0])
  (hR:q7 P Q ops a0 T w g Tb F C ka ks Tn xs ys ops.toList 0)
  (hF:∀ (vals:Nat→Value) (w':World) (h:Nat),w.heap.size≤h→aH w' h Tn ys→vals ka=.pointer (some ⟨h,0,none⟩)→Below w.heap.size (w.setCell ⟨g,0,none⟩ (F C.length)) w'→(∀ i,i<ops.size→i≠ka→i≠ks→(tbl T i).ok (vals i) w')→Q .normal (fill (fun _=>true) vals ops.toList 0 a0) w'):(Code.region id ops true).wp P Q a0 w:=by
 rw [Bool.and_eq_true,Bool.and_eq_true,Bool.and_eq_true,decide_eq_true_eq,decide_eq_true_eq] at hC
 obtain ⟨⟨⟨hC,hE⟩,ha⟩,hs⟩:=hC
 have c0:∀ C:List Nat,cnt (fun _=>false) C=0:=fun C=>by cases C <;> rfl
 have cl:∀ (l:Nat→Bool) (C:List Nat),(∀ c ∈ C,l c=true)→cnt l C=C.length:=fun l C=>by
  induction C with
  | nil=>intro _;rfl
  | cons c cs ih=>
  intro h
  unfold cnt
  rw [if_pos (h c (List.mem_cons_self ..)),ih (fun x hx=>h x (List.mem_cons_of_mem _ hx))]
  rfl
 refine io (u7 T w g F C ka ks Tn xs ys) hm hok (fun vals=>⟨?_,(fun _ _ _ h=>absurd h (by simp)),(fun h=>absurd h (by simp))⟩) (tE K1 hp hC hka hks hne hE ops.toList 0 (fun i=>by rw [Nat.zero_add];exact Array.getElem?_toList) hR) ?_
 ·rw [c0]
  exact dt K1 ((ww _ w).drew)
 intro l vals w' hl hI
 obtain ⟨h1,h2,h3⟩:=hI
 obtain ⟨h,q1,q2,q3⟩:=h3 (hl ka ha)
 rw [hl ks hs,if_pos rfl] at q3
 rw [cl l C (fun c hc=>hl c (hcl c hc))] at h1
 exact hF vals w' h q1 q3 q2 h1 (fun i hi n1 n2=>h2 i n1 n2 (hl i hi))
theorem wK {ops:Array Oper} {o:Oper} {a:Act} {w:World} {V:Val} {f:FuncId} {args:Array Value} {g:Nat} {y:Value} (hw:Region.wanted o (yielded ops a.tmps)=true) (h:(execOp a.eval o).run P w=.ok (.enter f args) w)
  (hc:Calls P f args w fun e w'=>∃ v,e=.returned v∧V.ok v w'∧Below w.heap.size (w.setCell ⟨g,0,none⟩ y) w'):Region.wanted o (yielded ops a.tmps)=true∧o.wp P a w (fun a' w'=>∃ v,a'=a.put o.dst v∧V.ok v w'∧Below w.heap.size (w.setCell ⟨g,0,none⟩ y) w') Q:=by
 refine ⟨hw,?_⟩
 unfold Oper.wp
 rw [h]
 refine Calls.mono hc ?_
 rintro e w' ⟨v,rfl,h1,h2⟩
 exact ⟨v,rfl,h1,h2⟩
theorem ei {ops:Array Oper} {o:Oper} {a:Act} {w:World} {v:Value} {f:FuncId} {args:Array Value} {g:Nat} {y:Value} (hw:Region.wanted o (yielded ops a.tmps)=true) (h:(execOp a.eval o).run P w=.ok (.enter f args) w)
  (hc:Calls P f args w fun e w'=>e=.returned v∧Below w.heap.size (w.setCell ⟨g,0,none⟩ y) w'):Region.wanted o (yielded ops a.tmps)=true∧o.wp P a w (fun a' w'=>∃ u,a'=a.put o.dst u∧(Val.is v).ok u w'∧Below w.heap.size (w.setCell ⟨g,0,none⟩ y) w') Q:=
 wK hw h (hc.mono fun _ _ ⟨e,b⟩=>⟨v,e,rfl,b⟩)
theorem ke {ops:Array Oper} {o:Oper} {a:Act} {w:World} {ob:Obj} (hw:Region.wanted o (yielded ops a.tmps)=true) (h:(execOp a.eval o).run P w=.ok (.value (.pointer (some ⟨w.heap.size,0,none⟩))) (w.alloc ob)):Region.wanted o (yielded ops a.tmps)=true∧o.wp P a w (fun a' w'=>a'=a.put o.dst (.pointer (some ⟨w.heap.size,0,none⟩))∧w'=w.alloc ob) Q:=by
 refine ⟨hw,?_⟩
 unfold Oper.wp
 rw [h]
 exact ⟨rfl,rfl⟩
end Rg
end
section
open Go.RowKit
namespace M
theorem oJ (s1 s2 s3:Sp):cP (cP s1 s2) s3=gd (gd (gd (gd s1.isSome s2).isSome (cP s1 (gd s1.isSome s2))).isSome s3).isSome (cP (gd (gd s1.isSome s2).isSome (cP s1 (gd s1.isSome s2))) (gd (gd (gd s1.isSome s2).isSome (cP s1 (gd s1.isSome s2))).isSome s3)):=by
 cases s1 with
 | none=>rfl
 | some p=>cases s2 with
  | none=>rfl
  | some q=>
  show cP (cP (some p) (some q)) s3=gd (gd (gd true (cP (some p) (some q))).isSome s3).isSome (cP (gd true (cP (some p) (some q))) (gd (gd true (cP (some p) (some q))).isSome s3))
  rw [kv]
  cases cP (some p) (some q) with
  | none=>rfl
  | some u=>cases s3 <;> rfl
end M
theorem qR (a b X1 Y1 E1 X2 Y2 E2:Int) (w:World) (hg:M.good a b=true) (hp:M.bS a b X1 Y1 E1=true) (hq:M.bS a b X2 Y2 E2=true) :
  Calls Tryz.prog 78 #[.agg #[.int .i64 a,.int .i64 b],.agg #[.int .i64 X1,.int .i64 Y1,.int .i64 E1],.agg #[.int .i64 X2,.int .i64 Y2,.int .i64 E2]] w fun e w'=>e=.returned (.tuple #[.agg #[.int .i64 (M.slo (M.dS a b X1 Y1 E1 X2 Y2 E2)),.int .i64 (M.shi (M.dS a b X1 Y1 E1 X2 Y2 E2))],.bool (M.dS a b X1 Y1 E1 X2 Y2 E2).isSome])∧Below w.heap.size w w':=by
 have PA:=fun W=>lk a b X1 Y1 E1 X2 Y2 E2 W hg hp hq
 have hin:=M.bI hg
 have hs:=M.rE hin hp hq
 obtain ⟨p1,p2,p3,p4,-,-⟩:=M.d9 hin hp
 obtain ⟨r1,r2,r3,r4,-,-⟩:=M.d9 hin hq
 obtain ⟨s1,s2,s3,s4,-,-⟩:=M.d9 hin hs
 have hv:=ws (show M.dS a b X1 Y1 E1 X2 Y2 E2=if M.eJ a X1 Y1 E1 X2 Y2 E2=true then M.cP (M.cP (M.bi a b (M.f9 a X1 Y1 E1 X2 Y2 E2) (M.f8 a X1 Y1 E1 X2 Y2 E2)) (M.bi a b X1 E1)) (M.bi a b X2 E2) else none from rfl)
 rw [hv.out]
 clear hv hs hp hq
 generalize M.f9 a X1 Y1 E1 X2 Y2 E2=X3 at *
 generalize M.iM a X1 Y1 E1 X2 Y2 E2=Y3 at *
 generalize M.f8 a X1 Y1 E1 X2 Y2 E2=E3 at *
 generalize M.eJ a X1 Y1 E1 X2 Y2 E2=ok at *
 cases ok with
 | false=>
  replace PA:=ws PA
  have hn:=ws (show (if (false=true) then M.cP (M.cP (M.bi a b X3 E3) (M.bi a b X1 E1)) (M.bi a b X2 E2) else none)=none from rfl)
  rw [hn.out]
  clear hn
  obtain ⟨wc,hw3,C,Q,U,R,B⟩:=kZ w #[.int .i64 a,.int .i64 b] 29 #[.int .i64 X1,.int .i64 Y1,.int .i64 E1] 57 #[.int .i64 X2,.int .i64 Y2,.int .i64 E2] 57 #[.int .i64 0,.int .i64 0] 68
  have C_c0:=C.box.c0
  have C_c1:=C.box.c1
  have ⟨q0,q1,q2⟩:=Q.aQ
  have ⟨u0,u1,u2⟩:=U.aQ
  go_enter Tryz.func78,Tryz.ntmps78
  go_wp2_with (go_at_call 96;(with_reducible refine (PA.out _).mono ?_);rintro e w4 ⟨rfl,hb4⟩;(have hz4:=Nat.lt_of_lt_of_le R.lt hb4.size);(replace B:=((B.trans (hb4.mono B.size)).alloc (Nat.le_trans B.size hb4.size) (.cells #[.int .i64 X3,.int .i64 Y3,.int .i64 E3] 57)).alloc (by rw [wt];exact Nat.le_succ_of_le (Nat.le_trans B.size hb4.size)) (.cells #[.bool false] 94));(replace C:=((C.keep hb4).alloc (.cells #[.int .i64 X3,.int .i64 Y3,.int .i64 E3] 57)).alloc (.cells #[.bool false] 94));(replace Q:=((Q.keep hb4).alloc (.cells #[.int .i64 X3,.int .i64 Y3,.int .i64 E3] 57)).alloc (.cells #[.bool false] 94));(replace U:=((U.keep hb4).alloc (.cells #[.int .i64 X3,.int .i64 Y3,.int .i64 E3] 57)).alloc (.cells #[.bool false] 94));(replace R:=((R.keep hb4).alloc (.cells #[.int .i64 X3,.int .i64 Y3,.int .i64 E3] 57)).alloc (.cells #[.bool false] 94));(have S:=(aH.new w4 #[.int .i64 X3,.int .i64 Y3,.int .i64 E3] 57).alloc (.cells #[.bool false] 94));(have K:=aH.new (w4.alloc (.cells #[.int .i64 X3,.int .i64 Y3,.int .i64 E3] 57)) #[.bool false] 94);(rw [wt] at K);(have ⟨r0,r1,zf0,zf1,rl⟩:=R.box))
  exact bodyPost_ret (v:=.tuple #[.agg #[.int .i64 0,.int .i64 0],.bool false]) (by simp [results,Tryz.results78,go_sem, *]) rfl (⟨rfl,wu (wu B (by simp;omega) _) (by simp;omega) _⟩)
 | true=>
 rw [if_pos rfl,M.oJ]
 have o1:=M.d6 (a:=a) (b:=b) hin s1 s2 s3 s4
 have PB1:=fun g_ W K=>ie g_ true a b X3 Y3 E3 W K hg s1 s2 s3 s4
 have PB2:=fun g_ ok W K=>ie g_ ok a b X1 Y1 E1 W K hg p1 p2 p3 p4
 have PB3:=fun g_ ok W K=>ie g_ ok a b X2 Y2 E2 W K hg r1 r2 r3 r4
 have o2:=M.d6 (a:=a) (b:=b) hin p1 p2 p3 p4
 have o3:=M.d6 (a:=a) (b:=b) hin r1 r2 r3 r4
 simp only [M.kv] at PB1
 generalize M.bi a b X3 E3=t1 at *
 replace PB2:=fun g_=>PB2 g_ t1.isSome
 generalize M.bi a b X1 E1=t2 at *
 obtain ⟨t3,ht3⟩:∃ t,t=M.gd t1.isSome t2:=⟨_,rfl⟩
 have o4:M.okS t3:=by rw [ht3];exact M.gw o2
 have i3:t3.isSome=true→t1.isSome=true:=fun h=>by rw [ht3] at h;exact (M.gn h).1
 rw [←ht3] at PB2 ⊢
 have PM1:=fun g_ W K=>jT g_ t3.isSome t1 t3 W K o1 o4 i3 (fun h=>h)
 obtain ⟨t4,ht4⟩:∃ t,t=M.gd t3.isSome (M.cP t1 t3):=⟨_,rfl⟩
 have o5:M.okS t4:=by rw [ht4];exact M.gw M.ik
 rw [←ht4] at PM1 ⊢
 replace PB3:=fun g_=>PB3 g_ t4.isSome
 generalize M.bi a b X2 E2=t5 at *
 obtain ⟨t6,ht6⟩:∃ t,t=M.gd t4.isSome t5:=⟨_,rfl⟩
 have o6:M.okS t6:=by rw [ht6];exact M.gw o3
 have i6:t6.isSome=true→t4.isSome=true:=fun h=>by rw [ht6] at h;exact (M.gn h).1
 rw [←ht6] at PB3 ⊢
 have PM2:=fun g_ W K=>jT g_ t6.isSome t4 t6 W K o5 o6 i6 (fun h=>h)
 generalize M.gd t6.isSome (M.cP t4 t6)=t7 at *
 clear ht3 ht4 ht6 o1 o2 o3 o4 o5 o6 i3 i6 t5 t2 hg hin
 generalize t1.isSome=f1 at *
 generalize M.slo t1=l1 at *
 generalize M.shi t1=h1 at *
 generalize t3.isSome=f3 at *
 generalize M.slo t3=l3 at *
 generalize M.shi t3=h3 at *
 generalize t4.isSome=f4 at *
 generalize M.slo t4=l4 at *
 generalize M.shi t4=h4 at *
 generalize t6.isSome=f6 at *
 generalize M.slo t6=l6 at *
 generalize M.shi t6=h6 at *
 generalize t7.isSome=f7 at *
 generalize M.slo t7=l7 at *
 generalize M.shi t7=h7 at *
 replace PA:=ws PA
 replace PB1:=ws PB1
 replace PB2:=ws PB2
 replace PB3:=ws PB3
 replace PM1:=ws PM1
 replace PM2:=ws PM2
 obtain ⟨wc,hw3,C,Q,U,R,B⟩:=kZ w #[.int .i64 a,.int .i64 b] 29 #[.int .i64 X1,.int .i64 Y1,.int .i64 E1] 57 #[.int .i64 X2,.int .i64 Y2,.int .i64 E2] 57 #[.int .i64 0,.int .i64 0] 68
 have C_c0:=C.box.c0
 have C_c1:=C.box.c1
 have ⟨q0,q1,q2⟩:=Q.aQ
 have ⟨u0,u1,u2⟩:=U.aQ
 go_enter Tryz.func78,Tryz.ntmps78
 go_upto_region 5 with (go_at_call 96;(with_reducible refine (PA.out _).mono ?_);rintro e w4 ⟨rfl,hb4⟩;(have hz4:=Nat.lt_of_lt_of_le R.lt hb4.size);(replace B:=((B.trans (hb4.mono B.size)).alloc (Nat.le_trans B.size hb4.size) (.cells #[.int .i64 X3,.int .i64 Y3,.int .i64 E3] 57)).alloc (by rw [wt];exact Nat.le_succ_of_le (Nat.le_trans B.size hb4.size)) (.cells #[.bool true] 94));(replace C:=((C.keep hb4).alloc (.cells #[.int .i64 X3,.int .i64 Y3,.int .i64 E3] 57)).alloc (.cells #[.bool true] 94));(replace Q:=((Q.keep hb4).alloc (.cells #[.int .i64 X3,.int .i64 Y3,.int .i64 E3] 57)).alloc (.cells #[.bool true] 94));(replace U:=((U.keep hb4).alloc (.cells #[.int .i64 X3,.int .i64 Y3,.int .i64 E3] 57)).alloc (.cells #[.bool true] 94));(replace R:=((R.keep hb4).alloc (.cells #[.int .i64 X3,.int .i64 Y3,.int .i64 E3] 57)).alloc (.cells #[.bool true] 94));(have S:=(aH.new w4 #[.int .i64 X3,.int .i64 Y3,.int .i64 E3] 57).alloc (.cells #[.bool true] 94));(have K:=aH.new (w4.alloc (.cells #[.int .i64 X3,.int .i64 Y3,.int .i64 E3] 57)) #[.bool true] 94);(rw [wt] at K);(have ⟨r0,r1,zf0,zf1,rl⟩:=R.box))
 generalize (w4.alloc (.cells #[.int .i64 X3,.int .i64 Y3,.int .i64 E3] 57)).alloc (.cells #[.bool true] 94)=wd at *
 have hsl:=S.lt
 have rl2:=R.lt
 have hw4:w.heap.size+4≤w4.heap.size:=by omega
 have nC:w.heap.size≠w4.heap.size+1:=by omega
 have nQ:w.heap.size+1≠w4.heap.size+1:=by omega
 have nU:w.heap.size+1+1≠w4.heap.size+1:=by omega
 have nR:w.heap.size+1+1+1≠w4.heap.size+1:=by omega
 have nS:w4.heap.size≠w4.heap.size+1:=by omega
 have nB:w.heap.size≤w4.heap.size+1:=by omega
 refine Rg.uw (w4.heap.size+1) 94 (fun n=>match n with | 0=>.bool true | 1=>.bool f1 | 2=>.bool f3 | 3=>.bool f4 | 4=>.bool f6 | _=>.bool f7) [5,9,10,14,15] 16 17 68 #[.int .i64 0,.int .i64 0] #[.int .i64 l7,.int .i64 h7] [.is (.pointer (some ⟨w4.heap.size+1,0,none⟩)),.is (.pointer (some ⟨w4.heap.size+1,0,none⟩)),.is (.pointer (some ⟨w4.heap.size+1,0,none⟩)),.is (.agg #[.int .i64 a,.int .i64 b]),.is (.agg #[.int .i64 X3,.int .i64 Y3,.int .i64 E3]),.is (.agg #[.int .i64 l1,.int .i64 h1]),.is (.pointer (some ⟨w4.heap.size+1,0,none⟩)),.is (.agg #[.int .i64 a,.int .i64 b]),.is (.agg #[.int .i64 X1,.int .i64 Y1,.int .i64 E1]),.is (.agg #[.int .i64 l3,.int .i64 h3]),.is (.agg #[.int .i64 l4,.int .i64 h4]),.is (.pointer (some ⟨w4.heap.size+1,0,none⟩)),.is (.agg #[.int .i64 a,.int .i64 b]),.is (.agg #[.int .i64 X2,.int .i64 Y2,.int .i64 E2]),.is (.agg #[.int .i64 l6,.int .i64 h6]),.is (.agg #[.int .i64 l7,.int .i64 h7]),.is (undef),.is (undef)] (by kernel_rfl) (by kernel_rfl) (by kernel_rfl) (fun j h1 h2=>match j,h1,h2 with | 0,h1,h2=>rfl | 1,h1,h2=>rfl | 2,h1,h2=>rfl | 3,h1,h2=>rfl | 4,h1,h2=>rfl | 5,h1,h2=>rfl | 6,h1,h2=>rfl | 7,h1,h2=>rfl | 8,h1,h2=>rfl | 9,h1,h2=>rfl | 10,h1,h2=>rfl | 11,h1,h2=>rfl | 12,h1,h2=>rfl | 13,h1,h2=>rfl | 14,h1,h2=>rfl | 15,h1,h2=>rfl | 16,h1,h2=>absurd rfl h1 | 17,h1,h2=>absurd rfl h2 | n+18,_,_=>rfl) (by decide) (by decide) (by decide) (by decide) K ⟨?_,?_,?_,?_,?_,?_,?_,?_,?_,?_,?_,?_,?_,?_,?_,?_,?_,?_,trivial⟩ ?_
 ·unfold Rg.bc
  rw [if_neg (by decide),if_neg (by decide),if_neg (by decide)]
  intro ac_ w_ hH hr
  have e10:ac_.tmps[10]?=some (.pointer (some ⟨w4.heap.size+1,0,none⟩)):=hr 10 (by decide)
  exact Rg.aG rfl (by go_simp)
 ·unfold Rg.bc
  rw [if_neg (by decide),if_neg (by decide),if_neg (by decide)]
  intro ac_ w_ hH hr
  have e10:ac_.tmps[10]?=some (.pointer (some ⟨w4.heap.size+1,0,none⟩)):=hr 10 (by decide)
  exact Rg.aG rfl (by go_simp)
 ·unfold Rg.bc
  rw [if_neg (by decide),if_neg (by decide),if_neg (by decide)]
  intro ac_ w_ hH hr
  have e10:ac_.tmps[10]?=some (.pointer (some ⟨w4.heap.size+1,0,none⟩)):=hr 10 (by decide)
  exact Rg.aG rfl (by go_simp)
 ·unfold Rg.bc
  rw [if_neg (by decide),if_neg (by decide),if_neg (by decide)]
  intro ac_ w_ hH hr
  have e3:ac_.tmps[3]?=some (.pointer (some ⟨w.heap.size,0,none⟩)):=hr 3 (by decide)
  have k0:=(hH.2 _ _ _ nC C).box.c0
  have k1:=(hH.2 _ _ _ nC C).box.c1
  exact Rg.aG rfl (by go_simp)
 ·unfold Rg.bc
  rw [if_neg (by decide),if_neg (by decide),if_neg (by decide)]
  intro ac_ w_ hH hr
  have e8:ac_.tmps[8]?=some (.pointer (some ⟨w4.heap.size,0,none⟩)):=hr 8 (by decide)
  have k0:=(hH.2 _ _ _ nS S).aQ.1
  have k1:=(hH.2 _ _ _ nS S).aQ.2.1
  have k2:=(hH.2 _ _ _ nS S).aQ.2.2
  exact Rg.aG rfl (by go_simp)
 ·unfold Rg.bc
  rw [if_neg (by decide),if_neg (by decide),if_pos (by decide)]
  intro ac_ w_ K_ hH hr
  replace K_:aH w_ (w4.heap.size+1) 94 #[.bool true]:=K_
  have e27:=Rg.ev1 (hr 27 (by decide))
  have e28:=Rg.ev1 (hr 28 (by decide))
  have e29:=Rg.ev1 (hr 29 (by decide))
  have ef:=Rg.ef ac_
  exact Rg.ei rfl (by go_simp) (PB1.out _ _ K_)
 ·unfold Rg.bc
  rw [if_neg (by decide),if_neg (by decide),if_neg (by decide)]
  intro ac_ w_ hH hr
  have e10:ac_.tmps[10]?=some (.pointer (some ⟨w4.heap.size+1,0,none⟩)):=hr 10 (by decide)
  exact Rg.aG rfl (by go_simp)
 ·unfold Rg.bc
  rw [if_neg (by decide),if_neg (by decide),if_neg (by decide)]
  intro ac_ w_ hH hr
  have e3:ac_.tmps[3]?=some (.pointer (some ⟨w.heap.size,0,none⟩)):=hr 3 (by decide)
  have k0:=(hH.2 _ _ _ nC C).box.c0
  have k1:=(hH.2 _ _ _ nC C).box.c1
  exact Rg.aG rfl (by go_simp)
 ·unfold Rg.bc
  rw [if_neg (by decide),if_neg (by decide),if_neg (by decide)]
  intro ac_ w_ hH hr
  have e4:ac_.tmps[4]?=some (.pointer (some ⟨w.heap.size+1,0,none⟩)):=hr 4 (by decide)
  have k0:=(hH.2 _ _ _ nQ Q).aQ.1
  have k1:=(hH.2 _ _ _ nQ Q).aQ.2.1
  have k2:=(hH.2 _ _ _ nQ Q).aQ.2.2
  exact Rg.aG rfl (by go_simp)
 ·unfold Rg.bc
  rw [if_neg (by decide),if_neg (by decide),if_pos (by decide)]
  intro ac_ w_ K_ hH hr
  replace K_:aH w_ (w4.heap.size+1) 94 #[.bool f1]:=K_
  have e31:=Rg.ev1 (hr 31 (by decide))
  have e32:=Rg.ev1 (hr 32 (by decide))
  have e33:=Rg.ev1 (hr 33 (by decide))
  have ef:=Rg.ef ac_
  exact Rg.ei rfl (by go_simp) (PB2.out _ _ K_)
 ·unfold Rg.bc
  rw [if_neg (by decide),if_neg (by decide),if_pos (by decide)]
  intro ac_ w_ K_ hH hr
  replace K_:aH w_ (w4.heap.size+1) 94 #[.bool f3]:=K_
  have e26:=Rg.ev1 (hr 26 (by decide))
  have e30:=Rg.ev1 (hr 30 (by decide))
  have e34:=Rg.ev1 (hr 34 (by decide))
  have ef:=Rg.ef ac_
  exact Rg.ei rfl (by go_simp) (PM1.out _ _ K_)
 ·unfold Rg.bc
  rw [if_neg (by decide),if_neg (by decide),if_neg (by decide)]
  intro ac_ w_ hH hr
  have e10:ac_.tmps[10]?=some (.pointer (some ⟨w4.heap.size+1,0,none⟩)):=hr 10 (by decide)
  exact Rg.aG rfl (by go_simp)
 ·unfold Rg.bc
  rw [if_neg (by decide),if_neg (by decide),if_neg (by decide)]
  intro ac_ w_ hH hr
  have e3:ac_.tmps[3]?=some (.pointer (some ⟨w.heap.size,0,none⟩)):=hr 3 (by decide)
  have k0:=(hH.2 _ _ _ nC C).box.c0
  have k1:=(hH.2 _ _ _ nC C).box.c1
  exact Rg.aG rfl (by go_simp)
 ·unfold Rg.bc
  rw [if_neg (by decide),if_neg (by decide),if_neg (by decide)]
  intro ac_ w_ hH hr
  have e5:ac_.tmps[5]?=some (.pointer (some ⟨w.heap.size+1+1,0,none⟩)):=hr 5 (by decide)
  have k0:=(hH.2 _ _ _ nU U).aQ.1
  have k1:=(hH.2 _ _ _ nU U).aQ.2.1
  have k2:=(hH.2 _ _ _ nU U).aQ.2.2
  exact Rg.aG rfl (by go_simp)
 ·unfold Rg.bc
  rw [if_neg (by decide),if_neg (by decide),if_pos (by decide)]
  intro ac_ w_ K_ hH hr
  replace K_:aH w_ (w4.heap.size+1) 94 #[.bool f4]:=K_
  have e36:=Rg.ev1 (hr 36 (by decide))
  have e37:=Rg.ev1 (hr 37 (by decide))
  have e38:=Rg.ev1 (hr 38 (by decide))
  have ef:=Rg.ef ac_
  exact Rg.ei rfl (by go_simp) (PB3.out _ _ K_)
 ·unfold Rg.bc
  rw [if_neg (by decide),if_neg (by decide),if_pos (by decide)]
  intro ac_ w_ K_ hH hr
  replace K_:aH w_ (w4.heap.size+1) 94 #[.bool f6]:=K_
  have e25:=Rg.ev1 (hr 25 (by decide))
  have e35:=Rg.ev1 (hr 35 (by decide))
  have e39:=Rg.ev1 (hr 39 (by decide))
  have ef:=Rg.ef ac_
  exact Rg.ei rfl (by go_simp) (PM2.out _ _ K_)
 ·unfold Rg.bc
  rw [if_pos rfl]
  intro ac_ w_
  exact Rg.ke rfl (by first | (go_simp;done) | (go_simp;rfl))
 ·unfold Rg.bc
  rw [if_neg (by decide),if_pos rfl]
  intro ac_ w_ h_ hh hn hr
  have e11:ac_.tmps[11]?=some (.pointer (some ⟨h_,0,none⟩)):=hr 11 (by decide)
  have e40:=Rg.ev1 (hr 40 (by decide))
  have ⟨y0,y1,x0,x1,_⟩:=hn.box
  refine ⟨rfl,?_⟩
  unfold Oper.wp
  go_simp
  exact ⟨aH.set2 hn _ _,wu (wu (ww _ _) hh _) hh _⟩
 intro vals wz h_ hh hn v_16 hB hv
 replace hB:Below wd.heap.size (wd.setCell ⟨w4.heap.size+1,0,none⟩ (.bool f7)) wz:=hB
 simp only [Rg.ak,Rg.fill,Act.put,Nat.reduceAdd]
 clear hv
 simp only [v_16]
 clear v_16
 have hB2:=bD hB
 replace B:=(wu B nB (.bool f7)).trans (hB.mono B.size)
 replace R:=(R.other (i:=0) nR (.bool f7)).keep hB2
 replace K:=(K.one (.bool f7)).keep hB2
 have k0:=K.cell 0
 have ⟨r0,r1,zf0,zf1,rl⟩:=R.box
 have ⟨z0,z1,_,_,_⟩:=hn.box
 clear hB hB2 C_c0 C_c1 q0 q1 q2 u0 u1 u2
 go_upto_region 6 with fail
 go_region
 all_goals
  go_wp2
  exact bodyPost_ret (v:=.tuple #[.agg #[.int .i64 l7,.int .i64 h7],.bool f7]) (by simp [results,Tryz.results78,go_sem, *]) rfl (⟨rfl,Below.drew (wu (wu B (by simp;omega) _) (by simp;omega) _)⟩)
def fB (w:World) (g:Nat) (l:List (Int × Int × Int)):Prop:=
 ∀ (k:Nat) (p:Int × Int × Int),l[k]?=some p→w.cell? ⟨g,k*3,none⟩=some (.int .i64 p.1)∧w.cell? ⟨g,k*3+1,none⟩=some (.int .i64 p.2.1)∧w.cell? ⟨g,k*3+2,none⟩=some (.int .i64 p.2.2)
theorem fB.below {w w':World} {g:Nat} {l:List (Int × Int × Int)} (h:fB w g l) (hb:Below w.heap.size w w'):fB w' g l:=fun k p hp=>by
 obtain ⟨h1,h2,h3⟩:=h k p hp
 exact ⟨aE hb h1,aE hb h2,aE hb h3⟩
namespace M
noncomputable def cy (a b:Int) (s:Sp) (l:List (Int × Int × Int)):Sp:=l.foldl (fun s p=>cP s (bi a b p.1 p.2.2)) s
theorem gD (a b:Int):∀ l,cy a b none l=none
 | []=>rfl
 | _ :: l=>gD a b l
theorem jU {a b:Int} {s:Sp} {l:List (Int × Int × Int)} {k:Nat} {p:Int × Int × Int} (h:l[k]?=some p):cy a b s (l.take (k+1))=cP (cy a b s (l.take k)) (bi a b p.1 p.2.2):=by
 unfold cy
 rw [List.take_add_one,h,List.foldl_append]
 rfl
theorem jV {a b:Int} {s:Sp} {l:List (Int × Int × Int)} {k:Nat} (h:cy a b s (l.take k)=none):cy a b s l=none:=by
 have e:cy a b s l=cy a b (cy a b s (l.take k)) (l.drop k):=by
  unfold cy
  rw [←List.foldl_append,List.take_append_drop]
 rw [e,h,gD]
end M
theorem aH.fS {W:World} {g k:Nat} {T:TypeId} {xs:Array Value} (h:aH W g T xs) (hk:g≠k) (x y z t:Value):aH ((((W.setCell ⟨k,0,none⟩ x).setCell ⟨k,1,none⟩ y).setCell ⟨k,2,none⟩ z).setCell ⟨k,3,none⟩ t) g T xs:=(((h.other hk x).other hk y).other hk z).other hk t
theorem sK (a b:Int) (s:Int × Int) (l:List (Int × Int × Int)) (g cap:Nat) (w:World) (hg:M.good a b=true) (hs:M.aN s.1 s.2=true) (hl:fB w g l) (hn:l.length≤100) (hp:∀ p ∈ l,-10000≤p.1∧p.1≤10000∧0≤p.2.2∧p.2.2≤20) :
  Calls Tryz.prog 88 #[.agg #[.int .i64 a,.int .i64 b],.agg #[.int .i64 (M.in1 (some s)),.int .i64 (M.in2 (some s)),.int .i64 (M.in3 (some s)),.int .i64 (M.in4 (some s))],.slice (some ⟨g,0,none⟩) l.length cap] w fun e w'=>e=.returned (.tuple #[.agg #[.int .i64 (M.in1 (M.cy a b (some s) l)),.int .i64 (M.in2 (M.cy a b (some s) l)),.int .i64 (M.in3 (M.cy a b (some s) l)),.int .i64 (M.in4 (M.cy a b (some s) l))],.bool (M.cy a b (some s) l).isSome])∧Below w.heap.size w w':=by
 have hin:=M.bI hg
 have hl:=ws hl
 have hp:=ws hp
 obtain ⟨wc,hw3,C,I,R,B⟩:=nP w #[.int .i64 a,.int .i64 b] 29 #[.int .i64 (M.in1 (some s)),.int .i64 (M.in2 (some s)),.int .i64 (M.in3 (some s)),.int .i64 (M.in4 (some s))] 64 #[.int .i64 0,.int .i64 0,.int .i64 0,.int .i64 0] 64
 obtain ⟨N,hN⟩:∃ N,Hid (l.length=N):=⟨_,ws rfl⟩
 rw [hN.out] at hn ⊢
 go_enter Tryz.func88,Tryz.ntmps88
 go_wp2
 go_loopw [16] (fun vi wr=>∃ (k:Nat) (p:Int × Int),k≤N∧vi=.int .i64 k∧Hid (M.cy a b (some s) (l.take k)=some p)∧aH wr w.heap.size 29 #[.int .i64 a,.int .i64 b]∧aH wr (w.heap.size+1) 64 #[.int .i64 (M.in1 (some p)),.int .i64 (M.in2 (some p)),.int .i64 (M.in3 (some p)),.int .i64 (M.in4 (some p))]∧aH wr (w.heap.size+1+1) 64 #[.int .i64 0,.int .i64 0,.int .i64 0,.int .i64 0]∧Below w.heap.size w wr) (fun vi _=>N - (intOf vi).toNat)
 case atStart=>exact ⟨0,s,Nat.zero_le _,rfl,ws rfl,C,I,R,B⟩
 case round=>
 clear C I R B hw3
 obtain ⟨k,p,hk,rfl,hcur,C,I,R,B⟩:=hrel
 have hpo:M.okS (some p):=by
  rw [←hcur.out]
  cases k with
  | zero=>intro q hq;injection hq with hq;subst hq;exact hs
  | succ k=>
  obtain ⟨z,hz⟩:∃ z,l[k]?=some z:=⟨_,List.getElem?_eq_getElem (by have:=hN.out;omega)⟩
  rw [M.jU hz]
  exact M.ik
 have hps:=hpo p rfl
 have C_c0:=C.box.c0
 have C_c1:=C.box.c1
 by_cases hlt:k<N
 ·obtain ⟨z,hz⟩:∃ z,l[k]?=some z:=⟨_,List.getElem?_eq_getElem (by have:=hN.out;omega)⟩
  obtain ⟨d0,d1,d2⟩:=(hl.out.below B) k z hz
  obtain ⟨b1,b2,b3,b4⟩:=hp.out z (List.mem_of_getElem? hz)
  have hnx:=M.jU (a:=a) (b:=b) (s:=some s) hz
  rw [hcur.out] at hnx
  obtain ⟨X,Y,E⟩:=z
  simp only [] at d0 d1 d2 b1 b2 b3 b4 hnx
  have PH:=fun W=>fO a b X Y E W hg b1 b2 b3 b4
  have hto:=M.d6 (a:=a) (b:=b) hin b1 b2 b3 b4
  generalize M.bi a b X E=t at *
  clear b1 b2 b3 b4 hz hcur
  replace B:=B.alloc B.size (.cells #[.int .i64 X,.int .i64 Y,.int .i64 E] 57)
  have Z:=aH.new wr #[.int .i64 X,.int .i64 Y,.int .i64 E] 57
  replace C:=C.alloc (.cells #[.int .i64 X,.int .i64 Y,.int .i64 E] 57)
  replace I:=I.alloc (.cells #[.int .i64 X,.int .i64 Y,.int .i64 E] 57)
  replace R:=R.alloc (.cells #[.int .i64 X,.int .i64 Y,.int .i64 E] 57)
  have C_c0:=C.box.c0
  have C_c1:=C.box.c1
  have ⟨z0,z1,z2⟩:=Z.aQ
  cases t with
  | none=>
   have hfin:M.cy a b (some s) l=none:=M.jV (k:=k+1) (by rw [hnx];rfl)
   have e1:=ws (show M.in1 none=0∧M.in2 none=0∧M.in3 none=0∧M.in4 none=0∧(none:M.Sp).isSome=false from ⟨rfl,rfl,rfl,rfl,rfl⟩)
   rw [e1.out.1,e1.out.2.1,e1.out.2.2.1,e1.out.2.2.2.1,e1.out.2.2.2.2] at PH
   have hfin:=ws hfin
   clear hnx hpo hps hto
   replace PH:=ws PH
   generalize M.in1 (some p)=i1_ at *
   generalize M.in2 (some p)=i2_ at *
   generalize M.in3 (some p)=i3_ at *
   generalize M.in4 (some p)=i4_ at *
   go_wp2_with (go_at_call 87;(with_reducible refine (PH.out _).mono ?_);rintro e w4 ⟨rfl,hb4⟩;(replace B:=B.trans (hb4.mono B.size));(replace C:=C.keep hb4);(replace I:=I.keep hb4);(replace R:=R.keep hb4);(replace R:=R.alloc (.cells #[.int .i64 0,.int .i64 0,.int .i64 0,.int .i64 0] 64));(replace C:=C.alloc (.cells #[.int .i64 0,.int .i64 0,.int .i64 0,.int .i64 0] 64));(replace I:=I.alloc (.cells #[.int .i64 0,.int .i64 0,.int .i64 0,.int .i64 0] 64));(replace B:=B.alloc B.size (.cells #[.int .i64 0,.int .i64 0,.int .i64 0,.int .i64 0] 64));(have V:=aH.new w4 #[.int .i64 0,.int .i64 0,.int .i64 0,.int .i64 0] 64);(have ⟨r0,r1,r2,r3,y0,y1,y2,y3,rl⟩:=R.aM);(have ⟨i0,i1,i2,i3,s0,s1,s2,s3,il⟩:=I.aM);(have ⟨v0,v1,v2,v3,_,_,_,_,vl⟩:=V.aM))
   exact bodyPost_ret (v:=.tuple #[.agg #[.int .i64 0,.int .i64 0,.int .i64 0,.int .i64 0],.bool false]) (by simp [results,Tryz.results88,go_sem, *]) rfl (⟨by rw [hfin.out,e1.out.1,e1.out.2.1,e1.out.2.2.1,e1.out.2.2.2.1,e1.out.2.2.2.2],wu (wu (wu (wu B (by simp;omega) _) (by simp;omega) _) (by simp;omega) _) (by simp;omega) _⟩)
  | some q=>
  have PI:=fun W=>mV p q W hps (hto q rfl)
  have e2:=ws (show (some q:M.Sp).isSome=true from rfl)
  rw [e2.out] at PH
  clear e2
  generalize M.cP (some p) (some q)=u at *
  have hnx:=ws hnx
  generalize M.in1 (some q)=k1 at *
  generalize M.in2 (some q)=k2 at *
  generalize M.in3 (some q)=k3 at *
  generalize M.in4 (some q)=k4 at *
  replace PH:=ws PH
  clear hto hps hpo
  cases u with
  | none=>
   have hfin:=ws (show M.cy a b (some s) l=none from M.jV (k:=k+1) hnx.out)
   have e1:=ws (show M.in1 none=0∧M.in2 none=0∧M.in3 none=0∧M.in4 none=0∧(none:M.Sp).isSome=false from ⟨rfl,rfl,rfl,rfl,rfl⟩)
   rw [e1.out.1,e1.out.2.1,e1.out.2.2.1,e1.out.2.2.2.1,e1.out.2.2.2.2] at PI
   replace PI:=ws PI
   clear hnx
   generalize M.in1 (some p)=i1_ at *
   generalize M.in2 (some p)=i2_ at *
   generalize M.in3 (some p)=i3_ at *
   generalize M.in4 (some p)=i4_ at *
   go_wp2_with first | (go_at_call 87;(with_reducible refine (PH.out _).mono ?_);rintro e w4 ⟨rfl,hb4⟩;(replace B:=B.trans (hb4.mono B.size));(replace C:=C.keep hb4);(replace I:=I.keep hb4);(replace R:=R.keep hb4);(replace R:=R.alloc (.cells #[.int .i64 k1,.int .i64 k2,.int .i64 k3,.int .i64 k4] 64));(replace C:=C.alloc (.cells #[.int .i64 k1,.int .i64 k2,.int .i64 k3,.int .i64 k4] 64));(replace I:=I.alloc (.cells #[.int .i64 k1,.int .i64 k2,.int .i64 k3,.int .i64 k4] 64));(replace B:=B.alloc B.size (.cells #[.int .i64 k1,.int .i64 k2,.int .i64 k3,.int .i64 k4] 64));(have V:=aH.new w4 #[.int .i64 k1,.int .i64 k2,.int .i64 k3,.int .i64 k4] 64);(have ⟨r0,r1,r2,r3,y0,y1,y2,y3,rl⟩:=R.aM);(have ⟨i0,i1,i2,i3,s0,s1,s2,s3,il⟩:=I.aM);(have ⟨v0,v1,v2,v3,_,_,_,_,vl⟩:=V.aM)) | (go_at_call 72;(with_reducible refine (PI.out _).mono ?_);rintro e w5 ⟨rfl,hb5⟩;(replace B:=B.trans (hb5.mono B.size));(replace C:=C.keep hb5);(replace I:=I.keep hb5);(replace R:=R.keep hb5);(replace R:=R.alloc (.cells #[.int .i64 0,.int .i64 0,.int .i64 0,.int .i64 0] 64));(replace C:=C.alloc (.cells #[.int .i64 0,.int .i64 0,.int .i64 0,.int .i64 0] 64));(replace I:=I.alloc (.cells #[.int .i64 0,.int .i64 0,.int .i64 0,.int .i64 0] 64));(replace B:=B.alloc B.size (.cells #[.int .i64 0,.int .i64 0,.int .i64 0,.int .i64 0] 64));(have V:=aH.new w5 #[.int .i64 0,.int .i64 0,.int .i64 0,.int .i64 0] 64);(have ⟨r0,r1,r2,r3,y0,y1,y2,y3,rl⟩:=R.aM);(have ⟨i0,i1,i2,i3,s0,s1,s2,s3,il⟩:=I.aM);(have ⟨v0,v1,v2,v3,_,_,_,_,vl⟩:=V.aM))
   exact bodyPost_ret (v:=.tuple #[.agg #[.int .i64 0,.int .i64 0,.int .i64 0,.int .i64 0],.bool false]) (by simp [results,Tryz.results88,go_sem, *]) rfl (⟨by rw [hfin.out,e1.out.1,e1.out.2.1,e1.out.2.2.1,e1.out.2.2.2.1,e1.out.2.2.2.2],wu (wu (wu (wu B (by simp;omega) _) (by simp;omega) _) (by simp;omega) _) (by simp;omega) _⟩)
  | some r=>
  have e2:=ws (show (some r:M.Sp).isSome=true from rfl)
  rw [e2.out] at PI
  clear e2
  obtain ⟨m1,hm1⟩:∃ m,Hid (M.in1 (some r)=m):=⟨_,ws rfl⟩
  rw [hm1.out] at PI
  obtain ⟨m2,hm2⟩:∃ m,Hid (M.in2 (some r)=m):=⟨_,ws rfl⟩
  rw [hm2.out] at PI
  obtain ⟨m3,hm3⟩:∃ m,Hid (M.in3 (some r)=m):=⟨_,ws rfl⟩
  rw [hm3.out] at PI
  obtain ⟨m4,hm4⟩:∃ m,Hid (M.in4 (some r)=m):=⟨_,ws rfl⟩
  rw [hm4.out] at PI
  replace PI:=ws PI
  generalize M.in1 (some p)=i1_ at *
  generalize M.in2 (some p)=i2_ at *
  generalize M.in3 (some p)=i3_ at *
  generalize M.in4 (some p)=i4_ at *
  go_wp2_with first | (go_at_call 87;(with_reducible refine (PH.out _).mono ?_);rintro e w4 ⟨rfl,hb4⟩;(replace B:=B.trans (hb4.mono B.size));(replace C:=C.keep hb4);(replace I:=I.keep hb4);(replace R:=R.keep hb4);(replace R:=R.alloc (.cells #[.int .i64 k1,.int .i64 k2,.int .i64 k3,.int .i64 k4] 64));(replace C:=C.alloc (.cells #[.int .i64 k1,.int .i64 k2,.int .i64 k3,.int .i64 k4] 64));(replace I:=I.alloc (.cells #[.int .i64 k1,.int .i64 k2,.int .i64 k3,.int .i64 k4] 64));(replace B:=B.alloc B.size (.cells #[.int .i64 k1,.int .i64 k2,.int .i64 k3,.int .i64 k4] 64));(have V:=aH.new w4 #[.int .i64 k1,.int .i64 k2,.int .i64 k3,.int .i64 k4] 64);(have ⟨r0,r1,r2,r3,y0,y1,y2,y3,rl⟩:=R.aM);(have ⟨i0,i1,i2,i3,s0,s1,s2,s3,il⟩:=I.aM);(have ⟨v0,v1,v2,v3,_,_,_,_,vl⟩:=V.aM)) | (go_at_call 72;(with_reducible refine (PI.out _).mono ?_);rintro e w5 ⟨rfl,hb5⟩;(replace B:=B.trans (hb5.mono B.size));(replace C:=C.keep hb5);(replace I:=I.keep hb5);(replace R:=R.keep hb5);(replace R:=R.alloc (.cells #[.int .i64 m1,.int .i64 m2,.int .i64 m3,.int .i64 m4] 64));(replace C:=C.alloc (.cells #[.int .i64 m1,.int .i64 m2,.int .i64 m3,.int .i64 m4] 64));(replace I:=I.alloc (.cells #[.int .i64 m1,.int .i64 m2,.int .i64 m3,.int .i64 m4] 64));(replace B:=B.alloc B.size (.cells #[.int .i64 m1,.int .i64 m2,.int .i64 m3,.int .i64 m4] 64));(have V:=aH.new w5 #[.int .i64 m1,.int .i64 m2,.int .i64 m3,.int .i64 m4] 64);(have ⟨r0,r1,r2,r3,y0,y1,y2,y3,rl⟩:=R.aM);(have ⟨i0,i1,i2,i3,s0,s1,s2,s3,il⟩:=I.aM);(have ⟨v0,v1,v2,v3,_,_,_,_,vl⟩:=V.aM))
  go_roundw
  case rel=>exact ⟨k+1,r,by omega,by simp,hnx,C.fS (by omega) _ _ _ _,by rw [hm1.out,hm2.out,hm3.out,hm4.out];exact I.j8 _ _ _ _,R.fS (by omega) _ _ _ _,wu (wu (wu (wu B (by simp) _) (by simp) _) (by simp) _) (by simp) _⟩
  case measure=>simp [intOf] <;> omega
 obtain rfl:k=N:=by omega
 have hfin:=hcur
 have e0:l.take k=l:=by rw [←hN.out];exact List.take_length
 rw [e0] at hfin
 have ⟨i0,i1,i2,i3,s0,s1,s2,s3,il⟩:=I.aM
 have ⟨r0,r1,r2,r3,y0,y1,y2,y3,rl⟩:=R.aM
 go_wp2
 exact bodyPost_ret (v:=.tuple #[.agg #[.int .i64 (M.in1 (some p)),.int .i64 (M.in2 (some p)),.int .i64 (M.in3 (some p)),.int .i64 (M.in4 (some p))],.bool true]) (by simp [results,Tryz.results88,go_sem, *]) rfl (⟨by rw [hfin.out];rfl,wu (wu (wu (wu B (by simp;omega) _) (by simp;omega) _) (by simp;omega) _) (by simp;omega) _⟩)
end
end Go.Proofs.YtgfkcoablfjbcaaGreat
