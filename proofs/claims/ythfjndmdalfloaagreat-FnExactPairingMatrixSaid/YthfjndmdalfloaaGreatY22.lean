/-
  Joined texts: contracts and plain lemmas.
-/
import Derived.Test.YthfjndmdalfloaaGreatY21
import Derived.Test.YthfjndmdalfloaaGreatY8
set_option linter.unusedSimpArgs false
set_option linter.unusedVariables false
set_option maxRecDepth 100000
set_option maxHeartbeats 8000000
namespace Go.Proofs.YthfjndmdalfloaaGreat
section
open Go Go.RowKit
namespace Rg
variable {P:Program} {Q:Exit→Act→World→Prop}
def cnt (l:Nat→Bool):List Nat→Nat
 | []=>0
 | c :: cs=>if l c=true then cnt l cs+1 else 0
def fE (ops:Array Oper) (c d:Nat):Bool:=match ops[d]? with
 | some o=>o.after.toList.any (fun e=>Region.binds .any e && e.on == c)
 | none=>false
def cS (ops:Array Oper):List Nat→Bool
 | c :: d :: cs=>fE ops c d && decide (c<d) && cS ops (d :: cs)
 | _=>true
theorem cI {ops:Array Oper} {l:Nat→Bool} {c d:Nat} (hc:fg .any ops l) (he:fE ops c d=true) (hd:l d=true):l c=true:=by
 unfold fE at he
 split at he
 ·rename_i o ho
  obtain ⟨e,h1,h2⟩:=List.any_eq_true.1 he
  rw [Bool.and_eq_true,beq_iff_eq] at h2
  have:=hc d o ho hd e (Array.mem_toList_iff.1 h1) h2.1
  rw [h2.2] at this
  exact this
 ·cases he
theorem dc {ops:Array Oper} {l:Nat→Bool} {c d:Nat} {o:Oper} (ho:ops[d]?=some o) (hdep:∀ e ∈ o.after,Region.binds .any e=true→l e.on=true) (he:fE ops c d=true):l c=true:=by
 unfold fE at he
 rw [ho] at he
 obtain ⟨e,h1,h2⟩:=List.any_eq_true.1 he
 rw [Bool.and_eq_true,beq_iff_eq] at h2
 have:=hdep e (Array.mem_toList_iff.1 h1) h2.1
 rw [h2.2] at this
 exact this
theorem dF {l:Nat→Bool} {k:Nat}:∀ C:List Nat,k ∉ C→cnt (upd l k) C=cnt l C
 | [],_=>rfl
 | c :: cs,h=>by
  have h1:c≠k:=fun e=>h (by rw [e];exact List.mem_cons_self ..)
  have e:upd l k c=l c:=if_neg h1
  unfold cnt
  rw [e,dF cs (fun hk=>h (List.mem_cons_of_mem _ hk))]
theorem fB {ops:Array Oper} {l:Nat→Bool} {k:Nat} (hc:fg .any ops l) (hk:l k=false) (hdep:∀ c,fE ops c k=true→l c=true):∀ C:List Nat,cS ops C=true→k ∈ C→cnt l C=C.idxOf k∧cnt (upd l k) C=C.idxOf k+1
 | [],_,h=>by cases h
 | [c],_,h=>by
  rcases List.mem_cons.1 h with rfl | h
  ·have e:upd l k k=true:=if_pos rfl
   unfold cnt cnt
   rw [hk,e]
   simp
  ·cases h
 | c :: d :: cs,ho,h=>by
  unfold cS at ho
  rw [Bool.and_eq_true,Bool.and_eq_true,decide_eq_true_eq] at ho
  obtain ⟨⟨he,hlt⟩,ho⟩:=ho
  by_cases hkc:k=c
  ·subst hkc
   have e:upd l k k=true:=if_pos rfl
   have hd:l d=false:=by
    cases hd:l d
    ·rfl
    ·rw [cI hc he hd] at hk;cases hk
   have e2:upd l k d=false:=(if_neg (by omega)).trans hd
   have i0:(k :: d :: cs).idxOf k=0:=by simp
   rw [i0]
   unfold cnt
   rw [hk,e]
   unfold cnt
   rw [e2]
   simp
  ·have hm:k ∈ d :: cs:=(List.mem_cons.1 h).resolve_left hkc
   obtain ⟨h1,h2⟩:=fB hc hk hdep (d :: cs) ho hm
   have hlc:l c=true:=by
    by_cases hkd:k=d
    ·subst hkd;exact hdep c he
    ·have:l d=true:=by
      cases hd:l d
      ·exfalso
       have z:cnt l (d :: cs)=0:=by unfold cnt;rw [hd];rfl
       have:(d :: cs).idxOf k≠0:=by
        rw [List.idxOf_cons]
        have:(d == k)=false:=by rw [beq_eq_false_iff_ne];exact fun e=>hkd e.symm
        rw [this]
        simp
       omega
      ·rfl
     exact cI hc he this
   have e:upd l k c=l c:=if_neg (fun e=>hkc e.symm)
   have i0:(c :: d :: cs).idxOf k=(d :: cs).idxOf k+1:=by
    rw [List.idxOf_cons]
    have:(c == k)=false:=by rw [beq_eq_false_iff_ne];exact fun e=>hkc e.symm
    rw [this]
    rfl
   rw [i0]
   unfold cnt
   rw [e,hlc,if_pos rfl,if_pos rfl,h1,h2]
   exact ⟨rfl,rfl⟩
theorem iM {g:Nat} {w1 w w':World} {Tb:TypeId} {x u v y:Value} (h:Below w1.heap.size (w1.setCell ⟨g,0,none⟩ x) w) (K1:aG w1 g Tb #[u]) (K:aG w g Tb #[v]) (hb:Below w.heap.size (w.setCell ⟨g,0,none⟩ y) w'):Below w1.heap.size (w1.setCell ⟨g,0,none⟩ y) w':=by
 have hs:w1.heap.size≤w.heap.size:=by have:=h.size;rw [aS] at this;exact this
 refine ⟨hb.os.trans h.os,hb.tape.trans h.tape,hb.output.trans h.output,?_,fun k hk=>?_⟩
 ·rw [aS]
  have:=hb.size
  rw [aS] at this
  omega
 ·rw [hb.block k (by omega)]
  by_cases hg:k=g
  ·subst hg
   exact (K.one y).trans (K1.one y).symm
  ·rw [Below.heap_setCell _ _ _ _ hg,h.block k hk,Below.heap_setCell _ _ _ _ hg,Below.heap_setCell _ _ _ _ hg]
theorem dO {g:Nat} {w w':World} {Tb:TypeId} {v:Value} (K:aG w g Tb #[v]) (hb:Below w.heap.size w w'):Below w.heap.size (w.setCell ⟨g,0,none⟩ v) w':=by
 refine ⟨hb.os,hb.tape,hb.output,by rw [aS];exact hb.size,fun k hk=>?_⟩
 rw [hb.block k hk]
 by_cases hg:k=g
 ·subst hg;exact K.trans (K.one v).symm
 ·rw [Below.heap_setCell _ _ _ _ hg]
section
variable (P) (Q) (ops:Array Oper) (a0:Act) (T:List Val) (w1:World) (g:Nat) (Tb:TypeId) (F:Nat→Value) (C:List Nat) (ka ks:Nat) (Tn:TypeId) (xs ys:Array Value)
def Held (w:World):Prop:=w1.heap.size≤w.heap.size∧∀ (b:Nat) (U:TypeId) (zs:Array Value),b≠g→aG w1 b U zs→aG w b U zs
def ik (h:Nat) (o:Oper) (a:Act) (w:World) (t:Nat):Prop:=
 match o.after.toList.find? (fun e=>Region.binds .any e && ((ops[e.on]?).bind (·.dst)) == some t) with
 | some e=>if e.on=ka then a.tmps[t]?=some (.pointer (some ⟨h,0,none⟩)) else if e.on=ks then True else ∃ v,a.tmps[t]?=some v∧(tbl T e.on).ok v w
 | none=>a.tmps[t]?=a0.tmps[t]?
def fA (o:Oper) (a:Act) (w:World) (t:Nat):Prop:=
 match o.after.toList.find? (fun e=>Region.binds .any e && ((ops[e.on]?).bind (·.dst)) == some t) with
 | some e=>if e.on=ka then True else if e.on=ks then True else ∃ v,a.tmps[t]?=some v∧(tbl T e.on).ok v w
 | none=>a.tmps[t]?=a0.tmps[t]?
def OwedP1 (k:Nat) (o:Oper):Prop:=
 if k=ka then ∀ (a:Act) (w:World),Region.wanted o (yielded ops a.tmps)=true∧o.wp P a w (fun a' w'=>a'=a.put o.dst (.pointer (some ⟨w.heap.size,0,none⟩))∧w'=w.alloc (.cells xs Tn)) Q
 else if k=ks then ∀ (a:Act) (w:World) (h:Nat),w1.heap.size≤h→aG w h Tn xs→(∀ t ∈ o.looksAt ops,ik ops a0 T ka ks h o a w t)→Region.wanted o (yielded ops a.tmps)=true∧o.wp P a w (fun a' w'=>(∃ v,a'=a.put o.dst v)∧aG w' h Tn ys∧Below w1.heap.size w w') Q
 else if k ∈ C then ∀ (a:Act) (w:World),aG w g Tb #[F (C.idxOf k)]→Held w1 g w→(∀ t ∈ o.looksAt ops,fA ops a0 T ka ks o a w t)→Region.wanted o (yielded ops a.tmps)=true∧o.wp P a w (fun a' w'=>∃ v,a'=a.put o.dst v∧(tbl T k).ok v w'∧Below w.heap.size (w.setCell ⟨g,0,none⟩ (F (C.idxOf k+1))) w') Q
 else ∀ (a:Act) (w:World),Held w1 g w→(∀ t ∈ o.looksAt ops,fA ops a0 T ka ks o a w t)→Does P ops Q (tbl T k) o a w
def jp:List Oper→Nat→Prop
 | [],_=>True
 | o :: os,k=>OwedP1 P Q ops a0 T w1 g Tb F C ka ks Tn xs ys k o∧jp os (k+1)
def mG (l:Nat→Bool) (vals:Nat→Value) (w:World):Prop:=
 Below w1.heap.size (w1.setCell ⟨g,0,none⟩ (F (cnt l C))) w∧(∀ i,i≠ka→i≠ks→l i=true→(tbl T i).ok (vals i) w)∧(l ka=true→∃ h,w1.heap.size≤h∧vals ka=.pointer (some ⟨h,0,none⟩)∧aG w h Tn (if l ks=true then ys else xs))
end
theorem kR {ops:Array Oper} {a0:Act} {T:List Val} {w1:World} {g:Nat} {Tb:TypeId} {F:Nat→Value} {C:List Nat} {ka ks:Nat} {Tn:TypeId} {xs ys:Array Value}
  (K1:aG w1 g Tb #[F 0]) (hp:∀ j,j≠ka→j≠ks→(tbl T j).pure=true) (hC:cS ops C=true) (hka:ka ∉ C) (hks:ks ∉ C) (hne:ka≠ks) (hE:fE ops ka ks=true) :
  ∀ (os:List Oper) (k:Nat),(∀ i,os[i]?=ops[k+i]?)→jp P Q ops a0 T w1 g Tb F C ka ks Tn xs ys os k→dX P Q .any ops (mG T w1 g F C ka ks Tn xs ys) a0 os k
 | [],_,_,_=>trivial
 | o :: os,k,hos,h=>by
  refine ⟨fun a w l vals hI hl hc hdep hr=>?_,kR K1 hp hC hka hks hne hE os (k+1) (fun i=>by rw [show k+1+i=k+(i+1) by omega,←hos (i+1)];rfl) h.2⟩
  obtain ⟨hB,hv,hn⟩:=hI
  have ho:ops[k]?=some o:=(hos 0).symm
  have hgl:g<w1.heap.size:=K1.lt
  have hsz:w1.heap.size≤w.heap.size:=by have:=hB.size;rw [aS] at this;exact this
  have K:aG w g Tb #[F (cnt l C)]:=(K1.one (F (cnt l C))).keep (ai hB)
  have hH:Held w1 g w:=⟨hsz,fun b U zs hb hz=>(hz.other hb _).keep (ai hB)⟩
  have hQ:∀ t ∈ o.looksAt ops,fA ops a0 T ka ks o a w t:=fun t ht=>by
   have:=hr t ht
   unfold rd at this
   unfold fA
   split
   ·rename_i e he
    rw [he] at this
    have h2:=List.find?_some he
    rw [Bool.and_eq_true] at h2
    split
    ·trivial
    ·split
     ·trivial
     ·rename_i n1 n2
      exact ⟨_,this,hv _ n1 n2 (hdep e (Array.mem_toList_iff.1 (List.mem_of_find?_eq_some he)) h2.1)⟩
   ·rename_i he
    rw [he] at this
    exact this
  have hko:∀ j,j≠k→upd l k j=l j:=fun j hj=>if_neg hj
  have hkk:upd l k k=true:=if_pos rfl
  have h1:=h.1
  unfold OwedP1 at h1
  unfold gc
  by_cases e1:k=ka
  ·rw [if_pos e1] at h1
   obtain ⟨hw,hwp⟩:=h1 a w
   rw [if_pos hw]
   refine Oper.wp_mono ?_ hwp
   rintro a' w' ⟨rfl,rfl⟩
   subst e1
   have hls:l ks=false:=by
    cases q:l ks
    ·rfl
    ·rw [cI hc hE q] at hl;cases hl
   refine ⟨_,rfl,?_,?_,fun _=>⟨w.heap.size,hsz,if_pos rfl,?_⟩⟩
   ·rw [dF C hka]
    exact hB.alloc hsz _
   ·intro i n1 n2 hi
    rw [hko i n1] at hi
    have:cK vals k (.pointer (some ⟨w.heap.size,0,none⟩)) i=vals i:=if_neg n1
    rw [this]
    exact Val.pure_keep (hp i n1 n2) (hv i n1 n2 hi)
   ·rw [hko ks (fun e=>hne e.symm),hls]
    exact aG.new w xs Tn
  ·rw [if_neg e1] at h1
   by_cases e2:k=ks
   ·rw [if_pos e2] at h1
    subst e2
    obtain ⟨hh,hh1,hh2,hh3⟩:=hn (dc ho hdep hE)
    rw [hl] at hh3
    obtain ⟨hw,hwp⟩:=h1 a w hh hh1 hh3 (fun t ht=>by
     have:=hr t ht
     unfold rd at this
     unfold ik
     split
     ·rename_i e he
      rw [he] at this
      have h2:=List.find?_some he
      rw [Bool.and_eq_true] at h2
      split
      ·rename_i q
       replace this:a.tmps[t]?=some (vals e.on):=this
       rw [q,hh2] at this
       exact this
      ·split
       ·trivial
       ·rename_i n1 n2
        exact ⟨_,this,hv _ n1 n2 (hdep e (Array.mem_toList_iff.1 (List.mem_of_find?_eq_some he)) h2.1)⟩
     ·rename_i he
      rw [he] at this
      exact this)
    rw [if_pos hw]
    refine Oper.wp_mono ?_ hwp
    rintro a' w' ⟨⟨v,e⟩,h2,h3⟩
    refine ⟨v,e,?_,?_,fun _=>⟨hh,hh1,?_,?_⟩⟩
    ·rw [dF C hks]
     exact hB.trans h3
    ·intro i n1 n2 hi
     rw [hko i n2] at hi
     have:cK vals k v i=vals i:=if_neg n2
     rw [this]
     exact Val.pure_keep (hp i n1 n2) (hv i n1 n2 hi)
    ·have:cK vals k v ka=vals ka:=if_neg hne
     rw [this];exact hh2
    ·rw [hkk];exact h2
   ·rw [if_neg e2] at h1
    have rest:∀ (v:Value) (w':World) (y:Value),y=F (cnt (upd l k) C)→(tbl T k).ok v w'→Below w.heap.size (w.setCell ⟨g,0,none⟩ y) w'→mG T w1 g F C ka ks Tn xs ys (upd l k) (cK vals k v) w':=by
     intro v w' y hy h2 h3
     subst hy
     refine ⟨iM hB K1 K h3,?_,?_⟩
     ·intro i n1 n2 hi
      by_cases hik:i=k
      ·subst hik
       have:cK vals i v i=v:=if_pos rfl
       rw [this];exact h2
      ·rw [hko i hik] at hi
       have:cK vals k v i=vals i:=if_neg hik
       rw [this]
       exact Val.pure_keep (hp i n1 n2) (hv i n1 n2 hi)
     ·intro hi
      rw [hko ka (fun e=>e1 e.symm)] at hi
      obtain ⟨hh,hh1,hh2,hh3⟩:=hn hi
      refine ⟨hh,hh1,?_,?_⟩
      ·have:cK vals k v ka=vals ka:=if_neg (fun e=>e1 e.symm)
       rw [this];exact hh2
      ·rw [hko ks (fun e=>e2 e.symm)]
       exact (hh3.other (by omega) _).keep (ai h3)
    by_cases e3:k ∈ C
    ·rw [if_pos e3] at h1
     obtain ⟨q1,q2⟩:=fB hc hl (fun c hcd=>dc ho hdep hcd) C hC e3
     rw [q1] at K
     obtain ⟨hw,hwp⟩:=h1 a w K hH hQ
     rw [if_pos hw]
     refine Oper.wp_mono ?_ hwp
     rintro a' w' ⟨v,e,h2,h3⟩
     exact ⟨v,e,rest v w' _ (by rw [q2]) h2 h3⟩
    ·rw [if_neg e3] at h1
     have hd:=h1 a w hH hQ
     unfold Does at hd
     split
     ·rename_i hw
      rw [if_pos hw] at hd
      refine Oper.wp_mono ?_ hd
      rintro a' w' ⟨v,e,h2,h3⟩
      exact ⟨v,e,rest v w' _ (by rw [dF C e3]) h2 (dO K h3)⟩
     ·rename_i hw
      rw [if_neg hw] at hd
      exact rest undef w _ (by rw [dF C e3]) hd (dO K (Below.refl _ _))
theorem walkP {id:Nat} {ops:Array Oper} {a0:Act} {w:World} (g:Nat) (Tb:TypeId) (F:Nat→Value) (C:List Nat) (ka ks:Nat) (Tn:TypeId) (xs ys:Array Value) (T:List Val)
  (hm:P.follows .mixedOrders=true) (hok:cH .any ops a0.tmps.size=true) (hC:(cS ops C && fE ops ka ks && decide (ka<ops.size) && decide (ks<ops.size))=true)
  (hp:∀ j,j≠ka→j≠ks→(tbl T j).pure=true) (hka:ka ∉ C) (hks:ks ∉ C) (hne:ka≠ks) (hcl:∀ c ∈ C,c<ops.size) (K1:aG w g Tb #[F 0])
  (hR:jp P Q ops a0 T w g Tb F C ka ks Tn xs ys ops.toList 0)
  (hF:∀ (vals:Nat→Value) (w':World) (h:Nat),w.heap.size≤h→aG w' h Tn ys→vals ka=.pointer (some ⟨h,0,none⟩)→Below w.heap.size (w.setCell ⟨g,0,none⟩ (F C.length)) w'→(∀ i,i<ops.size→i≠ka→i≠ks→(tbl T i).ok (vals i) w')→Q .normal (fill (fun _=>true) vals ops.toList 0 a0) w'):(Code.region id ops true).wp P Q a0 w:=by
 rw [Bool.and_eq_true,Bool.and_eq_true,Bool.and_eq_true,decide_eq_true_eq,decide_eq_true_eq] at hC
 obtain ⟨⟨⟨hC,hE⟩,ha⟩,hs⟩:=hC
 have c0:∀ C:List Nat,cnt (fun _=>false) C=0:=fun C=>by cases C <;> rfl
 have cl:∀ (l:Nat→Bool) (C:List Nat),(∀ c ∈ C,l c=true)→cnt l C=C.length:=fun l C=>by
  induction C with
  | nil=>intro _;rfl
  | cons c cs ih=>
   intro h
   unfold cnt
   rw [if_pos (h c (List.mem_cons_self ..)),ih (fun x hx=>h x (List.mem_cons_of_mem _ hx))]
   rfl
 refine fb (mG T w g F C ka ks Tn xs ys) hm hok (fun vals=>⟨?_,(fun _ _ _ h=>absurd h (by simp)),(fun h=>absurd h (by simp))⟩) (kR K1 hp hC hka hks hne hE ops.toList 0 (fun i=>by rw [Nat.zero_add];exact Array.getElem?_toList) hR) ?_
 ·rw [c0]
  exact dO K1 ((Below.refl _ w).drew)
 ·intro l vals w' hl hI
  obtain ⟨h1,h2,h3⟩:=hI
  obtain ⟨h,q1,q2,q3⟩:=h3 (hl ka ha)
  rw [hl ks hs,if_pos rfl] at q3
  rw [cl l C (fun c hc=>hl c (hcl c hc))] at h1
  exact hF vals w' h q1 q3 q2 h1 (fun i hi n1 n2=>h2 i n1 n2 (hl i hi))
theorem mV {ops:Array Oper} {o:Oper} {a:Act} {w:World} {V:Val} {f:FuncId} {args:Array Value} {g:Nat} {y:Value} (hw:Region.wanted o (yielded ops a.tmps)=true) (h:(execOp a.eval o).run P w=.ok (.enter f args) w)
  (hc:Calls P f args w fun e w'=>∃ v,e=.returned v∧V.ok v w'∧Below w.heap.size (w.setCell ⟨g,0,none⟩ y) w'):Region.wanted o (yielded ops a.tmps)=true∧o.wp P a w (fun a' w'=>∃ v,a'=a.put o.dst v∧V.ok v w'∧Below w.heap.size (w.setCell ⟨g,0,none⟩ y) w') Q:=by
 refine ⟨hw,?_⟩
 unfold Oper.wp
 rw [h]
 refine Calls.mono hc ?_
 rintro e w' ⟨v,rfl,h1,h2⟩
 exact ⟨v,rfl,h1,h2⟩
theorem callPIs {ops:Array Oper} {o:Oper} {a:Act} {w:World} {v:Value} {f:FuncId} {args:Array Value} {g:Nat} {y:Value} (hw:Region.wanted o (yielded ops a.tmps)=true) (h:(execOp a.eval o).run P w=.ok (.enter f args) w)
  (hc:Calls P f args w fun e w'=>e=.returned v∧Below w.heap.size (w.setCell ⟨g,0,none⟩ y) w'):Region.wanted o (yielded ops a.tmps)=true∧o.wp P a w (fun a' w'=>∃ u,a'=a.put o.dst u∧(Val.is v).ok u w'∧Below w.heap.size (w.setCell ⟨g,0,none⟩ y) w') Q:=
 mV hw h (hc.mono fun _ _ ⟨e,b⟩=>⟨v,e,rfl,b⟩)
theorem allocP {ops:Array Oper} {o:Oper} {a:Act} {w:World} {ob:Obj} (hw:Region.wanted o (yielded ops a.tmps)=true) (h:(execOp a.eval o).run P w=.ok (.value (.pointer (some ⟨w.heap.size,0,none⟩))) (w.alloc ob)):Region.wanted o (yielded ops a.tmps)=true∧o.wp P a w (fun a' w'=>a'=a.put o.dst (.pointer (some ⟨w.heap.size,0,none⟩))∧w'=w.alloc ob) Q:=by
 refine ⟨hw,?_⟩
 unfold Oper.wp
 rw [h]
 exact ⟨rfl,rfl⟩
end Rg
end
section
open Go.RowKit
namespace M
theorem pair_chain (s1 s2 s3:Sp):subS (subS s1 s2) s3=gd (gd (gd (gd s1.isSome s2).isSome (subS s1 (gd s1.isSome s2))).isSome s3).isSome (subS (gd (gd s1.isSome s2).isSome (subS s1 (gd s1.isSome s2))) (gd (gd (gd s1.isSome s2).isSome (subS s1 (gd s1.isSome s2))).isSome s3)):=by
 cases s1 with
 | none=>rfl
 | some p=>cases s2 with
  | none=>rfl
  | some q=>
   show subS (subS (some p) (some q)) s3=gd (gd (gd true (subS (some p) (some q))).isSome s3).isSome (subS (gd true (subS (some p) (some q))) (gd (gd true (subS (some p) (some q))).isSome s3))
   rw [gd_true]
   cases subS (some p) (some q) with
   | none=>rfl
   | some u=>cases s3 <;> rfl
end M
theorem i8 (a b X1 Y1 E1 X2 Y2 E2:Int) (w:World) (hg:M.good a b=true) (hp:M.ptOk a b X1 Y1 E1=true) (hq:M.ptOk a b X2 Y2 E2=true) :
  Calls Tryz.prog 69 #[.agg #[.int .i64 a,.int .i64 b],.agg #[.int .i64 X1,.int .i64 Y1,.int .i64 E1],.agg #[.int .i64 X2,.int .i64 Y2,.int .i64 E2]] w fun e w'=>e=.returned (.tuple #[.agg #[.int .i64 (M.slo (M.pairS a b X1 Y1 E1 X2 Y2 E2)),.int .i64 (M.shi (M.pairS a b X1 Y1 E1 X2 Y2 E2))],.bool (M.pairS a b X1 Y1 E1 X2 Y2 E2).isSome])∧Below w.heap.size w w':=by
 have PA:=fun W=>gT a b X1 Y1 E1 X2 Y2 E2 W hg hp hq
 have hin:=M.good_in hg
 have hs:=M.adP_ok hin hp hq
 obtain ⟨p1,p2,p3,p4,-,-⟩:=M.ptOk_bd hin hp
 obtain ⟨r1,r2,r3,r4,-,-⟩:=M.ptOk_bd hin hq
 obtain ⟨s1,s2,s3,s4,-,-⟩:=M.ptOk_bd hin hs
 have hv:=Lib.hid (show M.pairS a b X1 Y1 E1 X2 Y2 E2=if M.adPOk a X1 Y1 E1 X2 Y2 E2=true then M.subS (M.subS (M.bestS a b (M.adPX a X1 Y1 E1 X2 Y2 E2) (M.adPE a X1 Y1 E1 X2 Y2 E2)) (M.bestS a b X1 E1)) (M.bestS a b X2 E2) else none from rfl)
 rw [hv.out]
 clear hv hs hp hq
 generalize M.adPX a X1 Y1 E1 X2 Y2 E2=X3 at *
 generalize M.adPY a X1 Y1 E1 X2 Y2 E2=Y3 at *
 generalize M.adPE a X1 Y1 E1 X2 Y2 E2=E3 at *
 generalize M.adPOk a X1 Y1 E1 X2 Y2 E2=ok at *
 cases ok with
 | false=>
  replace PA:=Lib.hid PA
  have hn:=Lib.hid (show (if (false=true) then M.subS (M.subS (M.bestS a b X3 E3) (M.bestS a b X1 E1)) (M.bestS a b X2 E2) else none)=none from rfl)
  rw [hn.out]
  clear hn
  obtain ⟨wc,hw3,C,Q,U,R,B⟩:=fM w #[.int .i64 a,.int .i64 b] 28 #[.int .i64 X1,.int .i64 Y1,.int .i64 E1] 54 #[.int .i64 X2,.int .i64 Y2,.int .i64 E2] 54 #[.int .i64 0,.int .i64 0] 58
  have C_c0:=C.box.c0
  have C_c1:=C.box.c1
  have ⟨q0,q1,q2⟩:=Q.box3
  have ⟨u0,u1,u2⟩:=U.box3
  go_enter Tryz.func69,Tryz.ntmps69
  go_wp2_with (go_at_call 93;(with_reducible refine (PA.out _).mono ?_);rintro e w4 ⟨rfl,hb4⟩;(have hz4:=Nat.lt_of_lt_of_le R.lt hb4.size);(replace B:=((B.trans (hb4.mono B.size)).alloc (Nat.le_trans B.size hb4.size) (.cells #[.int .i64 X3,.int .i64 Y3,.int .i64 E3] 54)).alloc (by rw [World.size_alloc];exact Nat.le_succ_of_le (Nat.le_trans B.size hb4.size)) (.cells #[.bool false] 72));(replace C:=((C.keep hb4).alloc (.cells #[.int .i64 X3,.int .i64 Y3,.int .i64 E3] 54)).alloc (.cells #[.bool false] 72));(replace Q:=((Q.keep hb4).alloc (.cells #[.int .i64 X3,.int .i64 Y3,.int .i64 E3] 54)).alloc (.cells #[.bool false] 72));(replace U:=((U.keep hb4).alloc (.cells #[.int .i64 X3,.int .i64 Y3,.int .i64 E3] 54)).alloc (.cells #[.bool false] 72));(replace R:=((R.keep hb4).alloc (.cells #[.int .i64 X3,.int .i64 Y3,.int .i64 E3] 54)).alloc (.cells #[.bool false] 72));(have S:=(aG.new w4 #[.int .i64 X3,.int .i64 Y3,.int .i64 E3] 54).alloc (.cells #[.bool false] 72));(have K:=aG.new (w4.alloc (.cells #[.int .i64 X3,.int .i64 Y3,.int .i64 E3] 54)) #[.bool false] 72);(rw [World.size_alloc] at K);(have ⟨r0,r1,zf0,zf1,rl⟩:=R.box))
  exact bodyPost_ret (v:=.tuple #[.agg #[.int .i64 0,.int .i64 0],.bool false]) (by simp [results,Tryz.results69,go_sem, *]) rfl (⟨rfl,Below.setCell (Below.setCell B (by simp;omega) _) (by simp;omega) _⟩)
 | true=>
  rw [if_pos rfl,M.pair_chain]
  have o1:=M.okS_best (a:=a) (b:=b) hin s1 s2 s3 s4
  have PB1:=fun g_ W K=>eM g_ true a b X3 Y3 E3 W K hg s1 s2 s3 s4
  have PB2:=fun g_ ok W K=>eM g_ ok a b X1 Y1 E1 W K hg p1 p2 p3 p4
  have PB3:=fun g_ ok W K=>eM g_ ok a b X2 Y2 E2 W K hg r1 r2 r3 r4
  have o2:=M.okS_best (a:=a) (b:=b) hin p1 p2 p3 p4
  have o3:=M.okS_best (a:=a) (b:=b) hin r1 r2 r3 r4
  simp only [M.gd_true] at PB1
  generalize M.bestS a b X3 E3=t1 at *
  replace PB2:=fun g_=>PB2 g_ t1.isSome
  generalize M.bestS a b X1 E1=t2 at *
  obtain ⟨t3,ht3⟩:∃ t,t=M.gd t1.isSome t2:=⟨_,rfl⟩
  have o4:M.okS t3:=by rw [ht3];exact M.okS_gd o2
  have i3:t3.isSome=true→t1.isSome=true:=fun h=>by rw [ht3] at h;exact (M.gd_isSome h).1
  rw [←ht3] at PB2 ⊢
  have PM1:=fun g_ W K=>gJ g_ t3.isSome t1 t3 W K o1 o4 i3 (fun h=>h)
  obtain ⟨t4,ht4⟩:∃ t,t=M.gd t3.isSome (M.subS t1 t3):=⟨_,rfl⟩
  have o5:M.okS t4:=by rw [ht4];exact M.okS_gd M.okS_sub
  rw [←ht4] at PM1 ⊢
  replace PB3:=fun g_=>PB3 g_ t4.isSome
  generalize M.bestS a b X2 E2=t5 at *
  obtain ⟨t6,ht6⟩:∃ t,t=M.gd t4.isSome t5:=⟨_,rfl⟩
  have o6:M.okS t6:=by rw [ht6];exact M.okS_gd o3
  have i6:t6.isSome=true→t4.isSome=true:=fun h=>by rw [ht6] at h;exact (M.gd_isSome h).1
  rw [←ht6] at PB3 ⊢
  have PM2:=fun g_ W K=>gJ g_ t6.isSome t4 t6 W K o5 o6 i6 (fun h=>h)
  generalize M.gd t6.isSome (M.subS t4 t6)=t7 at *
  clear ht3 ht4 ht6 o1 o2 o3 o4 o5 o6 i3 i6 t5 t2 hg hin
  generalize t1.isSome=f1 at *
  generalize M.slo t1=l1 at *
  generalize M.shi t1=h1 at *
  generalize t3.isSome=f3 at *
  generalize M.slo t3=l3 at *
  generalize M.shi t3=h3 at *
  generalize t4.isSome=f4 at *
  generalize M.slo t4=l4 at *
  generalize M.shi t4=h4 at *
  generalize t6.isSome=f6 at *
  generalize M.slo t6=l6 at *
  generalize M.shi t6=h6 at *
  generalize t7.isSome=f7 at *
  generalize M.slo t7=l7 at *
  generalize M.shi t7=h7 at *
  replace PA:=Lib.hid PA
  replace PB1:=Lib.hid PB1
  replace PB2:=Lib.hid PB2
  replace PB3:=Lib.hid PB3
  replace PM1:=Lib.hid PM1
  replace PM2:=Lib.hid PM2
  obtain ⟨wc,hw3,C,Q,U,R,B⟩:=fM w #[.int .i64 a,.int .i64 b] 28 #[.int .i64 X1,.int .i64 Y1,.int .i64 E1] 54 #[.int .i64 X2,.int .i64 Y2,.int .i64 E2] 54 #[.int .i64 0,.int .i64 0] 58
  have C_c0:=C.box.c0
  have C_c1:=C.box.c1
  have ⟨q0,q1,q2⟩:=Q.box3
  have ⟨u0,u1,u2⟩:=U.box3
  go_enter Tryz.func69,Tryz.ntmps69
  go_upto_region 5 with (go_at_call 93;(with_reducible refine (PA.out _).mono ?_);rintro e w4 ⟨rfl,hb4⟩;(have hz4:=Nat.lt_of_lt_of_le R.lt hb4.size);(replace B:=((B.trans (hb4.mono B.size)).alloc (Nat.le_trans B.size hb4.size) (.cells #[.int .i64 X3,.int .i64 Y3,.int .i64 E3] 54)).alloc (by rw [World.size_alloc];exact Nat.le_succ_of_le (Nat.le_trans B.size hb4.size)) (.cells #[.bool true] 72));(replace C:=((C.keep hb4).alloc (.cells #[.int .i64 X3,.int .i64 Y3,.int .i64 E3] 54)).alloc (.cells #[.bool true] 72));(replace Q:=((Q.keep hb4).alloc (.cells #[.int .i64 X3,.int .i64 Y3,.int .i64 E3] 54)).alloc (.cells #[.bool true] 72));(replace U:=((U.keep hb4).alloc (.cells #[.int .i64 X3,.int .i64 Y3,.int .i64 E3] 54)).alloc (.cells #[.bool true] 72));(replace R:=((R.keep hb4).alloc (.cells #[.int .i64 X3,.int .i64 Y3,.int .i64 E3] 54)).alloc (.cells #[.bool true] 72));(have S:=(aG.new w4 #[.int .i64 X3,.int .i64 Y3,.int .i64 E3] 54).alloc (.cells #[.bool true] 72));(have K:=aG.new (w4.alloc (.cells #[.int .i64 X3,.int .i64 Y3,.int .i64 E3] 54)) #[.bool true] 72);(rw [World.size_alloc] at K);(have ⟨r0,r1,zf0,zf1,rl⟩:=R.box))
  generalize (w4.alloc (.cells #[.int .i64 X3,.int .i64 Y3,.int .i64 E3] 54)).alloc (.cells #[.bool true] 72)=wd at *
  have hsl:=S.lt
  have rl2:=R.lt
  have hw4:w.heap.size+4≤w4.heap.size:=by omega
  have nC:w.heap.size≠w4.heap.size+1:=by omega
  have nQ:w.heap.size+1≠w4.heap.size+1:=by omega
  have nU:w.heap.size+1+1≠w4.heap.size+1:=by omega
  have nR:w.heap.size+1+1+1≠w4.heap.size+1:=by omega
  have nS:w4.heap.size≠w4.heap.size+1:=by omega
  have nB:w.heap.size≤w4.heap.size+1:=by omega
  refine Rg.walkP (w4.heap.size+1) 72 (fun n=>match n with | 0=>.bool true | 1=>.bool f1 | 2=>.bool f3 | 3=>.bool f4 | 4=>.bool f6 | _=>.bool f7) [5,9,10,14,15] 16 17 58 #[.int .i64 0,.int .i64 0] #[.int .i64 l7,.int .i64 h7] [.is (.pointer (some ⟨w4.heap.size+1,0,none⟩)),.is (.pointer (some ⟨w4.heap.size+1,0,none⟩)),.is (.pointer (some ⟨w4.heap.size+1,0,none⟩)),.is (.agg #[.int .i64 a,.int .i64 b]),.is (.agg #[.int .i64 X3,.int .i64 Y3,.int .i64 E3]),.is (.agg #[.int .i64 l1,.int .i64 h1]),.is (.pointer (some ⟨w4.heap.size+1,0,none⟩)),.is (.agg #[.int .i64 a,.int .i64 b]),.is (.agg #[.int .i64 X1,.int .i64 Y1,.int .i64 E1]),.is (.agg #[.int .i64 l3,.int .i64 h3]),.is (.agg #[.int .i64 l4,.int .i64 h4]),.is (.pointer (some ⟨w4.heap.size+1,0,none⟩)),.is (.agg #[.int .i64 a,.int .i64 b]),.is (.agg #[.int .i64 X2,.int .i64 Y2,.int .i64 E2]),.is (.agg #[.int .i64 l6,.int .i64 h6]),.is (.agg #[.int .i64 l7,.int .i64 h7]),.is (undef),.is (undef)] (by kernel_rfl) (by kernel_rfl) (by kernel_rfl) (fun j h1 h2=>match j,h1,h2 with | 0,h1,h2=>rfl | 1,h1,h2=>rfl | 2,h1,h2=>rfl | 3,h1,h2=>rfl | 4,h1,h2=>rfl | 5,h1,h2=>rfl | 6,h1,h2=>rfl | 7,h1,h2=>rfl | 8,h1,h2=>rfl | 9,h1,h2=>rfl | 10,h1,h2=>rfl | 11,h1,h2=>rfl | 12,h1,h2=>rfl | 13,h1,h2=>rfl | 14,h1,h2=>rfl | 15,h1,h2=>rfl | 16,h1,h2=>absurd rfl h1 | 17,h1,h2=>absurd rfl h2 | n+18,_,_=>rfl) (by decide) (by decide) (by decide) (by decide) K ⟨?_,?_,?_,?_,?_,?_,?_,?_,?_,?_,?_,?_,?_,?_,?_,?_,?_,?_,trivial⟩ ?_
  ·unfold Rg.OwedP1
   rw [if_neg (by decide),if_neg (by decide),if_neg (by decide)]
   intro ac_ w_ hH hr
   have e10:ac_.tmps[10]?=some (.pointer (some ⟨w4.heap.size+1,0,none⟩)):=hr 10 (by decide)
   exact Rg.pure1 rfl (by go_simp)
  ·unfold Rg.OwedP1
   rw [if_neg (by decide),if_neg (by decide),if_neg (by decide)]
   intro ac_ w_ hH hr
   have e10:ac_.tmps[10]?=some (.pointer (some ⟨w4.heap.size+1,0,none⟩)):=hr 10 (by decide)
   exact Rg.pure1 rfl (by go_simp)
  ·unfold Rg.OwedP1
   rw [if_neg (by decide),if_neg (by decide),if_neg (by decide)]
   intro ac_ w_ hH hr
   have e10:ac_.tmps[10]?=some (.pointer (some ⟨w4.heap.size+1,0,none⟩)):=hr 10 (by decide)
   exact Rg.pure1 rfl (by go_simp)
  ·unfold Rg.OwedP1
   rw [if_neg (by decide),if_neg (by decide),if_neg (by decide)]
   intro ac_ w_ hH hr
   have e3:ac_.tmps[3]?=some (.pointer (some ⟨w.heap.size,0,none⟩)):=hr 3 (by decide)
   have k0:=(hH.2 _ _ _ nC C).box.c0
   have k1:=(hH.2 _ _ _ nC C).box.c1
   exact Rg.pure1 rfl (by go_simp)
  ·unfold Rg.OwedP1
   rw [if_neg (by decide),if_neg (by decide),if_neg (by decide)]
   intro ac_ w_ hH hr
   have e8:ac_.tmps[8]?=some (.pointer (some ⟨w4.heap.size,0,none⟩)):=hr 8 (by decide)
   have k0:=(hH.2 _ _ _ nS S).box3.1
   have k1:=(hH.2 _ _ _ nS S).box3.2.1
   have k2:=(hH.2 _ _ _ nS S).box3.2.2
   exact Rg.pure1 rfl (by go_simp)
  ·unfold Rg.OwedP1
   rw [if_neg (by decide),if_neg (by decide),if_pos (by decide)]
   intro ac_ w_ K_ hH hr
   replace K_:aG w_ (w4.heap.size+1) 72 #[.bool true]:=K_
   have e27:=Rg.ev1 (hr 27 (by decide))
   have e28:=Rg.ev1 (hr 28 (by decide))
   have e29:=Rg.ev1 (hr 29 (by decide))
   have ef:=Rg.ef ac_
   exact Rg.callPIs rfl (by go_simp) (PB1.out _ _ K_)
  ·unfold Rg.OwedP1
   rw [if_neg (by decide),if_neg (by decide),if_neg (by decide)]
   intro ac_ w_ hH hr
   have e10:ac_.tmps[10]?=some (.pointer (some ⟨w4.heap.size+1,0,none⟩)):=hr 10 (by decide)
   exact Rg.pure1 rfl (by go_simp)
  ·unfold Rg.OwedP1
   rw [if_neg (by decide),if_neg (by decide),if_neg (by decide)]
   intro ac_ w_ hH hr
   have e3:ac_.tmps[3]?=some (.pointer (some ⟨w.heap.size,0,none⟩)):=hr 3 (by decide)
   have k0:=(hH.2 _ _ _ nC C).box.c0
   have k1:=(hH.2 _ _ _ nC C).box.c1
   exact Rg.pure1 rfl (by go_simp)
  ·unfold Rg.OwedP1
   rw [if_neg (by decide),if_neg (by decide),if_neg (by decide)]
   intro ac_ w_ hH hr
   have e4:ac_.tmps[4]?=some (.pointer (some ⟨w.heap.size+1,0,none⟩)):=hr 4 (by decide)
   have k0:=(hH.2 _ _ _ nQ Q).box3.1
   have k1:=(hH.2 _ _ _ nQ Q).box3.2.1
   have k2:=(hH.2 _ _ _ nQ Q).box3.2.2
   exact Rg.pure1 rfl (by go_simp)
  ·unfold Rg.OwedP1
   rw [if_neg (by decide),if_neg (by decide),if_pos (by decide)]
   intro ac_ w_ K_ hH hr
   replace K_:aG w_ (w4.heap.size+1) 72 #[.bool f1]:=K_
   have e31:=Rg.ev1 (hr 31 (by decide))
   have e32:=Rg.ev1 (hr 32 (by decide))
   have e33:=Rg.ev1 (hr 33 (by decide))
   have ef:=Rg.ef ac_
   exact Rg.callPIs rfl (by go_simp) (PB2.out _ _ K_)
  ·unfold Rg.OwedP1
   rw [if_neg (by decide),if_neg (by decide),if_pos (by decide)]
   intro ac_ w_ K_ hH hr
   replace K_:aG w_ (w4.heap.size+1) 72 #[.bool f3]:=K_
   have e26:=Rg.ev1 (hr 26 (by decide))
   have e30:=Rg.ev1 (hr 30 (by decide))
   have e34:=Rg.ev1 (hr 34 (by decide))
   have ef:=Rg.ef ac_
   exact Rg.callPIs rfl (by go_simp) (PM1.out _ _ K_)
  ·unfold Rg.OwedP1
   rw [if_neg (by decide),if_neg (by decide),if_neg (by decide)]
   intro ac_ w_ hH hr
   have e10:ac_.tmps[10]?=some (.pointer (some ⟨w4.heap.size+1,0,none⟩)):=hr 10 (by decide)
   exact Rg.pure1 rfl (by go_simp)
  ·unfold Rg.OwedP1
   rw [if_neg (by decide),if_neg (by decide),if_neg (by decide)]
   intro ac_ w_ hH hr
   have e3:ac_.tmps[3]?=some (.pointer (some ⟨w.heap.size,0,none⟩)):=hr 3 (by decide)
   have k0:=(hH.2 _ _ _ nC C).box.c0
   have k1:=(hH.2 _ _ _ nC C).box.c1
   exact Rg.pure1 rfl (by go_simp)
  ·unfold Rg.OwedP1
   rw [if_neg (by decide),if_neg (by decide),if_neg (by decide)]
   intro ac_ w_ hH hr
   have e5:ac_.tmps[5]?=some (.pointer (some ⟨w.heap.size+1+1,0,none⟩)):=hr 5 (by decide)
   have k0:=(hH.2 _ _ _ nU U).box3.1
   have k1:=(hH.2 _ _ _ nU U).box3.2.1
   have k2:=(hH.2 _ _ _ nU U).box3.2.2
   exact Rg.pure1 rfl (by go_simp)
  ·unfold Rg.OwedP1
   rw [if_neg (by decide),if_neg (by decide),if_pos (by decide)]
   intro ac_ w_ K_ hH hr
   replace K_:aG w_ (w4.heap.size+1) 72 #[.bool f4]:=K_
   have e36:=Rg.ev1 (hr 36 (by decide))
   have e37:=Rg.ev1 (hr 37 (by decide))
   have e38:=Rg.ev1 (hr 38 (by decide))
   have ef:=Rg.ef ac_
   exact Rg.callPIs rfl (by go_simp) (PB3.out _ _ K_)
  ·unfold Rg.OwedP1
   rw [if_neg (by decide),if_neg (by decide),if_pos (by decide)]
   intro ac_ w_ K_ hH hr
   replace K_:aG w_ (w4.heap.size+1) 72 #[.bool f6]:=K_
   have e25:=Rg.ev1 (hr 25 (by decide))
   have e35:=Rg.ev1 (hr 35 (by decide))
   have e39:=Rg.ev1 (hr 39 (by decide))
   have ef:=Rg.ef ac_
   exact Rg.callPIs rfl (by go_simp) (PM2.out _ _ K_)
  ·unfold Rg.OwedP1
   rw [if_pos rfl]
   intro ac_ w_
   exact Rg.allocP rfl (by first | (go_simp;done) | (go_simp;rfl))
  ·unfold Rg.OwedP1
   rw [if_neg (by decide),if_pos rfl]
   intro ac_ w_ h_ hh hn hr
   have e11:ac_.tmps[11]?=some (.pointer (some ⟨h_,0,none⟩)):=hr 11 (by decide)
   have e40:=Rg.ev1 (hr 40 (by decide))
   have ⟨y0,y1,x0,x1,_⟩:=hn.box
   refine ⟨rfl,?_⟩
   unfold Oper.wp
   go_simp
   exact ⟨aG.set2 hn _ _,Below.setCell (Below.setCell (Below.refl _ _) hh _) hh _⟩
  ·intro vals wz h_ hh hn v_16 hB hv
   replace hB:Below wd.heap.size (wd.setCell ⟨w4.heap.size+1,0,none⟩ (.bool f7)) wz:=hB
   simp only [Rg.fill,if_true,Act.put,List.setIfInBounds_toArray,List.set_cons_zero,List.set_cons_succ,Nat.zero_add,Nat.reduceAdd]
   clear hv
   simp only [v_16]
   clear v_16
   have hB2:=ai hB
   replace B:=(Below.setCell B nB (.bool f7)).trans (hB.mono B.size)
   replace R:=(R.other (i:=0) nR (.bool f7)).keep hB2
   replace K:=(K.one (.bool f7)).keep hB2
   have k0:=K.cell 0
   have ⟨r0,r1,zf0,zf1,rl⟩:=R.box
   have ⟨z0,z1,_,_,_⟩:=hn.box
   clear hB hB2 C_c0 C_c1 q0 q1 q2 u0 u1 u2
   go_upto_region 6 with fail
   go_region
   all_goals
    go_wp2
    exact bodyPost_ret (v:=.tuple #[.agg #[.int .i64 l7,.int .i64 h7],.bool f7]) (by simp [results,Tryz.results69,go_sem, *]) rfl (⟨rfl,Below.drew (Below.setCell (Below.setCell B (by simp;omega) _) (by simp;omega) _)⟩)
def cf (w:World) (g:Nat) (l:List (Int × Int × Int)):Prop:=
 ∀ (k:Nat) (p:Int × Int × Int),l[k]?=some p→w.cell? ⟨g,k*3,none⟩=some (.int .i64 p.1)∧w.cell? ⟨g,k*3+1,none⟩=some (.int .i64 p.2.1)∧w.cell? ⟨g,k*3+2,none⟩=some (.int .i64 p.2.2)
theorem cf.below {w w':World} {g:Nat} {l:List (Int × Int × Int)} (h:cf w g l) (hb:Below w.heap.size w w'):cf w' g l:=fun k p hp=>by
 obtain ⟨h1,h2,h3⟩:=h k p hp
 exact ⟨aE hb h1,aE hb h2,aE hb h3⟩
namespace M
noncomputable def lessS (a b:Int) (s:Sp) (l:List (Int × Int × Int)):Sp:=l.foldl (fun s p=>subS s (bestS a b p.1 p.2.2)) s
theorem lessS_none (a b:Int):∀ l,lessS a b none l=none
 | []=>rfl
 | _ :: l=>lessS_none a b l
theorem lessS_next {a b:Int} {s:Sp} {l:List (Int × Int × Int)} {k:Nat} {p:Int × Int × Int} (h:l[k]?=some p):lessS a b s (l.take (k+1))=subS (lessS a b s (l.take k)) (bestS a b p.1 p.2.2):=by
 unfold lessS
 rw [List.take_add_one,h,List.foldl_append]
 rfl
theorem lessS_stop {a b:Int} {s:Sp} {l:List (Int × Int × Int)} {k:Nat} (h:lessS a b s (l.take k)=none):lessS a b s l=none:=by
 have e:lessS a b s l=lessS a b (lessS a b s (l.take k)) (l.drop k):=by
  unfold lessS
  rw [←List.foldl_append,List.take_append_drop]
 rw [e,h,lessS_none]
end M
theorem aG.other4 {W:World} {g k:Nat} {T:TypeId} {xs:Array Value} (h:aG W g T xs) (hk:g≠k) (x y z t:Value):aG ((((W.setCell ⟨k,0,none⟩ x).setCell ⟨k,1,none⟩ y).setCell ⟨k,2,none⟩ z).setCell ⟨k,3,none⟩ t) g T xs:=(((h.other hk x).other hk y).other hk z).other hk t
theorem jq (a b:Int) (s:Int × Int) (l:List (Int × Int × Int)) (g cap:Nat) (w:World) (hg:M.good a b=true) (hs:M.spanOk s.1 s.2=true) (hl:cf w g l) (hn:l.length≤100) (hp:∀ p ∈ l,-10000≤p.1∧p.1≤10000∧0≤p.2.2∧p.2.2≤20) :
  Calls Tryz.prog 87 #[.agg #[.int .i64 a,.int .i64 b],.agg #[.int .i64 (M.in1 (some s)),.int .i64 (M.in2 (some s)),.int .i64 (M.in3 (some s)),.int .i64 (M.in4 (some s))],.slice (some ⟨g,0,none⟩) l.length cap] w fun e w'=>e=.returned (.tuple #[.agg #[.int .i64 (M.in1 (M.lessS a b (some s) l)),.int .i64 (M.in2 (M.lessS a b (some s) l)),.int .i64 (M.in3 (M.lessS a b (some s) l)),.int .i64 (M.in4 (M.lessS a b (some s) l))],.bool (M.lessS a b (some s) l).isSome])∧Below w.heap.size w w':=by
 have hin:=M.good_in hg
 have hl:=Lib.hid hl
 have hp:=Lib.hid hp
 obtain ⟨wc,hw3,C,I,R,B⟩:=iq w #[.int .i64 a,.int .i64 b] 28 #[.int .i64 (M.in1 (some s)),.int .i64 (M.in2 (some s)),.int .i64 (M.in3 (some s)),.int .i64 (M.in4 (some s))] 38 #[.int .i64 0,.int .i64 0,.int .i64 0,.int .i64 0] 38
 obtain ⟨N,hN⟩:∃ N,Hid (l.length=N):=⟨_,Lib.hid rfl⟩
 rw [hN.out] at hn ⊢
 go_enter Tryz.func87,Tryz.ntmps87
 go_wp2
 go_loopw [16] (fun vi wr=>∃ (k:Nat) (p:Int × Int),k≤N∧vi=.int .i64 k∧Hid (M.lessS a b (some s) (l.take k)=some p)∧aG wr w.heap.size 28 #[.int .i64 a,.int .i64 b]∧aG wr (w.heap.size+1) 38 #[.int .i64 (M.in1 (some p)),.int .i64 (M.in2 (some p)),.int .i64 (M.in3 (some p)),.int .i64 (M.in4 (some p))]∧aG wr (w.heap.size+1+1) 38 #[.int .i64 0,.int .i64 0,.int .i64 0,.int .i64 0]∧Below w.heap.size w wr) (fun vi _=>N - (intOf vi).toNat)
 case atStart=>exact ⟨0,s,Nat.zero_le _,rfl,Lib.hid rfl,C,I,R,B⟩
 case round=>
  clear C I R B hw3
  obtain ⟨k,p,hk,rfl,hcur,C,I,R,B⟩:=hrel
  have hpo:M.okS (some p):=by
   rw [←hcur.out]
   cases k with
   | zero=>intro q hq;injection hq with hq;subst hq;exact hs
   | succ k=>
    obtain ⟨z,hz⟩:∃ z,l[k]?=some z:=⟨_,List.getElem?_eq_getElem (by have:=hN.out;omega)⟩
    rw [M.lessS_next hz]
    exact M.okS_sub
  have hps:=hpo p rfl
  have C_c0:=C.box.c0
  have C_c1:=C.box.c1
  by_cases hlt:k<N
  ·obtain ⟨z,hz⟩:∃ z,l[k]?=some z:=⟨_,List.getElem?_eq_getElem (by have:=hN.out;omega)⟩
   obtain ⟨d0,d1,d2⟩:=(hl.out.below B) k z hz
   obtain ⟨b1,b2,b3,b4⟩:=hp.out z (List.mem_of_getElem? hz)
   have hnx:=M.lessS_next (a:=a) (b:=b) (s:=some s) hz
   rw [hcur.out] at hnx
   obtain ⟨X,Y,E⟩:=z
   simp only [] at d0 d1 d2 b1 b2 b3 b4 hnx
   have PH:=fun W=>cw a b X Y E W hg b1 b2 b3 b4
   have hto:=M.okS_best (a:=a) (b:=b) hin b1 b2 b3 b4
   generalize M.bestS a b X E=t at *
   clear b1 b2 b3 b4 hz hcur
   replace B:=B.alloc B.size (.cells #[.int .i64 X,.int .i64 Y,.int .i64 E] 54)
   have Z:=aG.new wr #[.int .i64 X,.int .i64 Y,.int .i64 E] 54
   replace C:=C.alloc (.cells #[.int .i64 X,.int .i64 Y,.int .i64 E] 54)
   replace I:=I.alloc (.cells #[.int .i64 X,.int .i64 Y,.int .i64 E] 54)
   replace R:=R.alloc (.cells #[.int .i64 X,.int .i64 Y,.int .i64 E] 54)
   have C_c0:=C.box.c0
   have C_c1:=C.box.c1
   have ⟨z0,z1,z2⟩:=Z.box3
   cases t with
   | none=>
    have hfin:M.lessS a b (some s) l=none:=M.lessS_stop (k:=k+1) (by rw [hnx];rfl)
    have e1:=Lib.hid (show M.in1 none=0∧M.in2 none=0∧M.in3 none=0∧M.in4 none=0∧(none:M.Sp).isSome=false from ⟨rfl,rfl,rfl,rfl,rfl⟩)
    rw [e1.out.1,e1.out.2.1,e1.out.2.2.1,e1.out.2.2.2.1,e1.out.2.2.2.2] at PH
    have hfin:=Lib.hid hfin
    clear hnx hpo hps hto
    replace PH:=Lib.hid PH
    generalize M.in1 (some p)=i1_ at *
    generalize M.in2 (some p)=i2_ at *
    generalize M.in3 (some p)=i3_ at *
    generalize M.in4 (some p)=i4_ at *
    go_wp2_with (go_at_call 86;(with_reducible refine (PH.out _).mono ?_);rintro e w4 ⟨rfl,hb4⟩;(replace B:=B.trans (hb4.mono B.size));(replace C:=C.keep hb4);(replace I:=I.keep hb4);(replace R:=R.keep hb4);(replace R:=R.alloc (.cells #[.int .i64 0,.int .i64 0,.int .i64 0,.int .i64 0] 38));(replace C:=C.alloc (.cells #[.int .i64 0,.int .i64 0,.int .i64 0,.int .i64 0] 38));(replace I:=I.alloc (.cells #[.int .i64 0,.int .i64 0,.int .i64 0,.int .i64 0] 38));(replace B:=B.alloc B.size (.cells #[.int .i64 0,.int .i64 0,.int .i64 0,.int .i64 0] 38));(have V:=aG.new w4 #[.int .i64 0,.int .i64 0,.int .i64 0,.int .i64 0] 38);(have ⟨r0,r1,r2,r3,y0,y1,y2,y3,rl⟩:=R.boxQ);(have ⟨i0,i1,i2,i3,s0,s1,s2,s3,il⟩:=I.boxQ);(have ⟨v0,v1,v2,v3,_,_,_,_,vl⟩:=V.boxQ))
    exact bodyPost_ret (v:=.tuple #[.agg #[.int .i64 0,.int .i64 0,.int .i64 0,.int .i64 0],.bool false]) (by simp [results,Tryz.results87,go_sem, *]) rfl (⟨by rw [hfin.out,e1.out.1,e1.out.2.1,e1.out.2.2.1,e1.out.2.2.2.1,e1.out.2.2.2.2],Below.setCell (Below.setCell (Below.setCell (Below.setCell B (by simp;omega) _) (by simp;omega) _) (by simp;omega) _) (by simp;omega) _⟩)
   | some q=>
    have PI:=fun W=>kZ p q W hps (hto q rfl)
    have e2:=Lib.hid (show (some q:M.Sp).isSome=true from rfl)
    rw [e2.out] at PH
    clear e2
    generalize M.subS (some p) (some q)=u at *
    have hnx:=Lib.hid hnx
    generalize M.in1 (some q)=k1 at *
    generalize M.in2 (some q)=k2 at *
    generalize M.in3 (some q)=k3 at *
    generalize M.in4 (some q)=k4 at *
    replace PH:=Lib.hid PH
    clear hto hps hpo
    cases u with
    | none=>
     have hfin:=Lib.hid (show M.lessS a b (some s) l=none from M.lessS_stop (k:=k+1) hnx.out)
     have e1:=Lib.hid (show M.in1 none=0∧M.in2 none=0∧M.in3 none=0∧M.in4 none=0∧(none:M.Sp).isSome=false from ⟨rfl,rfl,rfl,rfl,rfl⟩)
     rw [e1.out.1,e1.out.2.1,e1.out.2.2.1,e1.out.2.2.2.1,e1.out.2.2.2.2] at PI
     replace PI:=Lib.hid PI
     clear hnx
     generalize M.in1 (some p)=i1_ at *
     generalize M.in2 (some p)=i2_ at *
     generalize M.in3 (some p)=i3_ at *
     generalize M.in4 (some p)=i4_ at *
     go_wp2_with first | (go_at_call 86;(with_reducible refine (PH.out _).mono ?_);rintro e w4 ⟨rfl,hb4⟩;(replace B:=B.trans (hb4.mono B.size));(replace C:=C.keep hb4);(replace I:=I.keep hb4);(replace R:=R.keep hb4);(replace R:=R.alloc (.cells #[.int .i64 k1,.int .i64 k2,.int .i64 k3,.int .i64 k4] 38));(replace C:=C.alloc (.cells #[.int .i64 k1,.int .i64 k2,.int .i64 k3,.int .i64 k4] 38));(replace I:=I.alloc (.cells #[.int .i64 k1,.int .i64 k2,.int .i64 k3,.int .i64 k4] 38));(replace B:=B.alloc B.size (.cells #[.int .i64 k1,.int .i64 k2,.int .i64 k3,.int .i64 k4] 38));(have V:=aG.new w4 #[.int .i64 k1,.int .i64 k2,.int .i64 k3,.int .i64 k4] 38);(have ⟨r0,r1,r2,r3,y0,y1,y2,y3,rl⟩:=R.boxQ);(have ⟨i0,i1,i2,i3,s0,s1,s2,s3,il⟩:=I.boxQ);(have ⟨v0,v1,v2,v3,_,_,_,_,vl⟩:=V.boxQ)) | (go_at_call 78;(with_reducible refine (PI.out _).mono ?_);rintro e w5 ⟨rfl,hb5⟩;(replace B:=B.trans (hb5.mono B.size));(replace C:=C.keep hb5);(replace I:=I.keep hb5);(replace R:=R.keep hb5);(replace R:=R.alloc (.cells #[.int .i64 0,.int .i64 0,.int .i64 0,.int .i64 0] 38));(replace C:=C.alloc (.cells #[.int .i64 0,.int .i64 0,.int .i64 0,.int .i64 0] 38));(replace I:=I.alloc (.cells #[.int .i64 0,.int .i64 0,.int .i64 0,.int .i64 0] 38));(replace B:=B.alloc B.size (.cells #[.int .i64 0,.int .i64 0,.int .i64 0,.int .i64 0] 38));(have V:=aG.new w5 #[.int .i64 0,.int .i64 0,.int .i64 0,.int .i64 0] 38);(have ⟨r0,r1,r2,r3,y0,y1,y2,y3,rl⟩:=R.boxQ);(have ⟨i0,i1,i2,i3,s0,s1,s2,s3,il⟩:=I.boxQ);(have ⟨v0,v1,v2,v3,_,_,_,_,vl⟩:=V.boxQ))
     exact bodyPost_ret (v:=.tuple #[.agg #[.int .i64 0,.int .i64 0,.int .i64 0,.int .i64 0],.bool false]) (by simp [results,Tryz.results87,go_sem, *]) rfl (⟨by rw [hfin.out,e1.out.1,e1.out.2.1,e1.out.2.2.1,e1.out.2.2.2.1,e1.out.2.2.2.2],Below.setCell (Below.setCell (Below.setCell (Below.setCell B (by simp;omega) _) (by simp;omega) _) (by simp;omega) _) (by simp;omega) _⟩)
    | some r=>
     have e2:=Lib.hid (show (some r:M.Sp).isSome=true from rfl)
     rw [e2.out] at PI
     clear e2
     obtain ⟨m1,hm1⟩:∃ m,Hid (M.in1 (some r)=m):=⟨_,Lib.hid rfl⟩
     rw [hm1.out] at PI
     obtain ⟨m2,hm2⟩:∃ m,Hid (M.in2 (some r)=m):=⟨_,Lib.hid rfl⟩
     rw [hm2.out] at PI
     obtain ⟨m3,hm3⟩:∃ m,Hid (M.in3 (some r)=m):=⟨_,Lib.hid rfl⟩
     rw [hm3.out] at PI
     obtain ⟨m4,hm4⟩:∃ m,Hid (M.in4 (some r)=m):=⟨_,Lib.hid rfl⟩
     rw [hm4.out] at PI
     replace PI:=Lib.hid PI
     generalize M.in1 (some p)=i1_ at *
     generalize M.in2 (some p)=i2_ at *
     generalize M.in3 (some p)=i3_ at *
     generalize M.in4 (some p)=i4_ at *
     go_wp2_with first | (go_at_call 86;(with_reducible refine (PH.out _).mono ?_);rintro e w4 ⟨rfl,hb4⟩;(replace B:=B.trans (hb4.mono B.size));(replace C:=C.keep hb4);(replace I:=I.keep hb4);(replace R:=R.keep hb4);(replace R:=R.alloc (.cells #[.int .i64 k1,.int .i64 k2,.int .i64 k3,.int .i64 k4] 38));(replace C:=C.alloc (.cells #[.int .i64 k1,.int .i64 k2,.int .i64 k3,.int .i64 k4] 38));(replace I:=I.alloc (.cells #[.int .i64 k1,.int .i64 k2,.int .i64 k3,.int .i64 k4] 38));(replace B:=B.alloc B.size (.cells #[.int .i64 k1,.int .i64 k2,.int .i64 k3,.int .i64 k4] 38));(have V:=aG.new w4 #[.int .i64 k1,.int .i64 k2,.int .i64 k3,.int .i64 k4] 38);(have ⟨r0,r1,r2,r3,y0,y1,y2,y3,rl⟩:=R.boxQ);(have ⟨i0,i1,i2,i3,s0,s1,s2,s3,il⟩:=I.boxQ);(have ⟨v0,v1,v2,v3,_,_,_,_,vl⟩:=V.boxQ)) | (go_at_call 78;(with_reducible refine (PI.out _).mono ?_);rintro e w5 ⟨rfl,hb5⟩;(replace B:=B.trans (hb5.mono B.size));(replace C:=C.keep hb5);(replace I:=I.keep hb5);(replace R:=R.keep hb5);(replace R:=R.alloc (.cells #[.int .i64 m1,.int .i64 m2,.int .i64 m3,.int .i64 m4] 38));(replace C:=C.alloc (.cells #[.int .i64 m1,.int .i64 m2,.int .i64 m3,.int .i64 m4] 38));(replace I:=I.alloc (.cells #[.int .i64 m1,.int .i64 m2,.int .i64 m3,.int .i64 m4] 38));(replace B:=B.alloc B.size (.cells #[.int .i64 m1,.int .i64 m2,.int .i64 m3,.int .i64 m4] 38));(have V:=aG.new w5 #[.int .i64 m1,.int .i64 m2,.int .i64 m3,.int .i64 m4] 38);(have ⟨r0,r1,r2,r3,y0,y1,y2,y3,rl⟩:=R.boxQ);(have ⟨i0,i1,i2,i3,s0,s1,s2,s3,il⟩:=I.boxQ);(have ⟨v0,v1,v2,v3,_,_,_,_,vl⟩:=V.boxQ))
     go_roundw
     case rel=>exact ⟨k+1,r,by omega,by simp,hnx,C.other4 (by omega) _ _ _ _,by rw [hm1.out,hm2.out,hm3.out,hm4.out];exact I.set4 _ _ _ _,R.other4 (by omega) _ _ _ _,Below.setCell (Below.setCell (Below.setCell (Below.setCell B (by simp) _) (by simp) _) (by simp) _) (by simp) _⟩
     case measure=>simp [intOf] <;> omega
  ·obtain rfl:k=N:=by omega
   have hfin:=hcur
   have e0:l.take k=l:=by rw [←hN.out];exact List.take_length
   rw [e0] at hfin
   have ⟨i0,i1,i2,i3,s0,s1,s2,s3,il⟩:=I.boxQ
   have ⟨r0,r1,r2,r3,y0,y1,y2,y3,rl⟩:=R.boxQ
   go_wp2
   exact bodyPost_ret (v:=.tuple #[.agg #[.int .i64 (M.in1 (some p)),.int .i64 (M.in2 (some p)),.int .i64 (M.in3 (some p)),.int .i64 (M.in4 (some p))],.bool true]) (by simp [results,Tryz.results87,go_sem, *]) rfl (⟨by rw [hfin.out];rfl,Below.setCell (Below.setCell (Below.setCell (Below.setCell B (by simp;omega) _) (by simp;omega) _) (by simp;omega) _) (by simp;omega) _⟩)
theorem cf.two {W:World} {g:Nat} {T:TypeId} {X1 Y1 E1 X2 Y2 E2:Int} (h:aG W g T #[.int .i64 X1,.int .i64 Y1,.int .i64 E1,.int .i64 X2,.int .i64 Y2,.int .i64 E2]):cf W g [(X1,Y1,E1),(X2,Y2,E2)]:=by
 intro k p hp
 match k,hp with
 | 0,hp=>injection hp with hp;subst hp;exact ⟨h.cell 0,h.cell 1,h.cell 2⟩
 | 1,hp=>injection hp with hp;subst hp;exact ⟨h.cell 3,h.cell 4,h.cell 5⟩
 | k+2,hp=>cases hp
theorem ge (a b X1 Y1 E1 X2 Y2 E2:Int) (w:World) (hg:M.good a b=true) (hp:M.ptOk a b X1 Y1 E1=true) (hq:M.ptOk a b X2 Y2 E2=true) :
  Calls Tryz.prog 58 #[.agg #[.int .i64 a,.int .i64 b],.agg #[.int .i64 X1,.int .i64 Y1,.int .i64 E1],.agg #[.int .i64 X2,.int .i64 Y2,.int .i64 E2]] w fun e w'=>e=.returned (.tuple #[.agg #[.int .i64 (M.in1 (M.pairS a b X1 Y1 E1 X2 Y2 E2)),.int .i64 (M.in2 (M.pairS a b X1 Y1 E1 X2 Y2 E2)),.int .i64 (M.in3 (M.pairS a b X1 Y1 E1 X2 Y2 E2)),.int .i64 (M.in4 (M.pairS a b X1 Y1 E1 X2 Y2 E2))],.bool (M.pairS a b X1 Y1 E1 X2 Y2 E2).isSome])∧Below w.heap.size w w':=by
 have PA:=fun W=>ko a b X1 Y1 E1 X2 Y2 E2 W hg hp hq
 have hin:=M.good_in hg
 have hs:=M.adP_ok hin hp hq
 obtain ⟨p1,p2,p3,p4,-,-⟩:=M.ptOk_bd hin hp
 obtain ⟨r1,r2,r3,r4,-,-⟩:=M.ptOk_bd hin hq
 obtain ⟨s1,s2,s3,s4,-,-⟩:=M.ptOk_bd hin hs
 have hv:=Lib.hid (show (M.pairS a b X1 Y1 E1 X2 Y2 E2)=if M.adPOk a X1 Y1 E1 X2 Y2 E2=true then M.lessS a b (M.bestS a b (M.adPX a X1 Y1 E1 X2 Y2 E2) (M.adPE a X1 Y1 E1 X2 Y2 E2)) [(X1,Y1,E1),(X2,Y2,E2)] else none from rfl)
 rw [hv.out]
 clear hv hs hp hq
 generalize M.adPX a X1 Y1 E1 X2 Y2 E2=X3 at *
 generalize M.adPY a X1 Y1 E1 X2 Y2 E2=Y3 at *
 generalize M.adPE a X1 Y1 E1 X2 Y2 E2=E3 at *
 generalize M.adPOk a X1 Y1 E1 X2 Y2 E2=ok at *
 have PH:=fun W=>cw a b X3 Y3 E3 W hg s1 s2 s3 s4
 have hto:=M.okS_best (a:=a) (b:=b) hin s1 s2 s3 s4
 have PL:=fun s g W h1 h2=>jq a b s [(X1,Y1,E1),(X2,Y2,E2)] g 2 W hg h1 h2 (by simp) (by
  intro p hp
  rcases List.mem_cons.1 hp with rfl | hp
  ·exact ⟨p1,p2,p3,p4⟩
  ·rcases List.mem_cons.1 hp with rfl | hp
   ·exact ⟨r1,r2,r3,r4⟩
   ·cases hp)
 generalize M.bestS a b X3 E3=t at *
 clear hg hin s1 s2 s3 s4 p1 p2 p3 p4 r1 r2 r3 r4
 cases ok with
 | false=>
  have e1:=Lib.hid (show M.in1 none=0∧M.in2 none=0∧M.in3 none=0∧M.in4 none=0∧(none:M.Sp).isSome=false from ⟨rfl,rfl,rfl,rfl,rfl⟩)
  have e2:=Lib.hid (show (if (false=true) then M.lessS a b t [(X1,Y1,E1),(X2,Y2,E2)] else none)=none from rfl)
  rw [e2.out,e1.out.1,e1.out.2.1,e1.out.2.2.1,e1.out.2.2.2.1,e1.out.2.2.2.2]
  clear e1 e2 PH PL hto
  replace PA:=Lib.hid PA
  obtain ⟨wc,hw3,C,Q,U,R,B⟩:=fM w #[.int .i64 a,.int .i64 b] 28 #[.int .i64 X1,.int .i64 Y1,.int .i64 E1] 54 #[.int .i64 X2,.int .i64 Y2,.int .i64 E2] 54 #[.int .i64 0,.int .i64 0,.int .i64 0,.int .i64 0] 38
  have C_c0:=C.box.c0
  have C_c1:=C.box.c1
  have ⟨q0,q1,q2⟩:=Q.box3
  have ⟨u0,u1,u2⟩:=U.box3
  go_enter Tryz.func58,Tryz.ntmps58
  go_wp2_with (go_at_call 85;(with_reducible refine (PA.out _).mono ?_);rintro e w4 ⟨rfl,hb4⟩;(replace B:=B.trans (hb4.mono B.size));(replace C:=C.keep hb4);(replace Q:=Q.keep hb4);(replace U:=U.keep hb4);(replace R:=R.keep hb4);(replace B:=B.alloc B.size (.cells #[.int .i64 X3,.int .i64 Y3,.int .i64 E3] 54));(replace C:=C.alloc (.cells #[.int .i64 X3,.int .i64 Y3,.int .i64 E3] 54));(replace Q:=Q.alloc (.cells #[.int .i64 X3,.int .i64 Y3,.int .i64 E3] 54));(replace U:=U.alloc (.cells #[.int .i64 X3,.int .i64 Y3,.int .i64 E3] 54));(replace R:=R.alloc (.cells #[.int .i64 X3,.int .i64 Y3,.int .i64 E3] 54));(have S:=aG.new w4 #[.int .i64 X3,.int .i64 Y3,.int .i64 E3] 54);(have ⟨z0,z1,z2⟩:=S.box3);(have C_c0:=C.box.c0);(have C_c1:=C.box.c1);(have ⟨q0,q1,q2⟩:=Q.box3);(have ⟨u0,u1,u2⟩:=U.box3);(have ⟨r0,r1,r2,r3,y0,y1,y2,y3,rl⟩:=R.boxQ))
  exact bodyPost_ret (v:=.tuple #[.agg #[.int .i64 0,.int .i64 0,.int .i64 0,.int .i64 0],.bool false]) (by simp [results,Tryz.results58,go_sem, *]) rfl (⟨rfl,Below.setCell (Below.setCell (Below.setCell (Below.setCell B (by simp;omega) _) (by simp;omega) _) (by simp;omega) _) (by simp;omega) _⟩)
 | true=>
  rw [if_pos rfl]
  replace PA:=Lib.hid PA
  cases t with
  | none=>
   have e1:=Lib.hid (show M.in1 none=0∧M.in2 none=0∧M.in3 none=0∧M.in4 none=0∧(none:M.Sp).isSome=false from ⟨rfl,rfl,rfl,rfl,rfl⟩)
   rw [M.lessS_none,e1.out.1,e1.out.2.1,e1.out.2.2.1,e1.out.2.2.2.1,e1.out.2.2.2.2]
   rw [e1.out.1,e1.out.2.1,e1.out.2.2.1,e1.out.2.2.2.1,e1.out.2.2.2.2] at PH
   clear e1 PL hto
   replace PH:=Lib.hid PH
   obtain ⟨wc,hw3,C,Q,U,R,B⟩:=fM w #[.int .i64 a,.int .i64 b] 28 #[.int .i64 X1,.int .i64 Y1,.int .i64 E1] 54 #[.int .i64 X2,.int .i64 Y2,.int .i64 E2] 54 #[.int .i64 0,.int .i64 0,.int .i64 0,.int .i64 0] 38
   have C_c0:=C.box.c0
   have C_c1:=C.box.c1
   have ⟨q0,q1,q2⟩:=Q.box3
   have ⟨u0,u1,u2⟩:=U.box3
   go_enter Tryz.func58,Tryz.ntmps58
   go_wp2_with first | (go_at_call 85;(with_reducible refine (PA.out _).mono ?_);rintro e w4 ⟨rfl,hb4⟩;(replace B:=B.trans (hb4.mono B.size));(replace C:=C.keep hb4);(replace Q:=Q.keep hb4);(replace U:=U.keep hb4);(replace R:=R.keep hb4);(replace B:=B.alloc B.size (.cells #[.int .i64 X3,.int .i64 Y3,.int .i64 E3] 54));(replace C:=C.alloc (.cells #[.int .i64 X3,.int .i64 Y3,.int .i64 E3] 54));(replace Q:=Q.alloc (.cells #[.int .i64 X3,.int .i64 Y3,.int .i64 E3] 54));(replace U:=U.alloc (.cells #[.int .i64 X3,.int .i64 Y3,.int .i64 E3] 54));(replace R:=R.alloc (.cells #[.int .i64 X3,.int .i64 Y3,.int .i64 E3] 54));(have S:=aG.new w4 #[.int .i64 X3,.int .i64 Y3,.int .i64 E3] 54);(have ⟨z0,z1,z2⟩:=S.box3);(have C_c0:=C.box.c0);(have C_c1:=C.box.c1);(have ⟨q0,q1,q2⟩:=Q.box3);(have ⟨u0,u1,u2⟩:=U.box3);(have ⟨r0,r1,r2,r3,y0,y1,y2,y3,rl⟩:=R.boxQ)) | (go_at_call 86;(with_reducible refine (PH.out _).mono ?_);rintro e w5 ⟨rfl,hb5⟩;(replace B:=B.trans (hb5.mono B.size));(replace C:=C.keep hb5);(replace Q:=Q.keep hb5);(replace U:=U.keep hb5);(replace R:=R.keep hb5);(replace B:=B.alloc B.size (.cells #[.int .i64 0,.int .i64 0,.int .i64 0,.int .i64 0] 38));(replace C:=C.alloc (.cells #[.int .i64 0,.int .i64 0,.int .i64 0,.int .i64 0] 38));(replace Q:=Q.alloc (.cells #[.int .i64 0,.int .i64 0,.int .i64 0,.int .i64 0] 38));(replace U:=U.alloc (.cells #[.int .i64 0,.int .i64 0,.int .i64 0,.int .i64 0] 38));(replace R:=R.alloc (.cells #[.int .i64 0,.int .i64 0,.int .i64 0,.int .i64 0] 38));(have V:=aG.new w5 #[.int .i64 0,.int .i64 0,.int .i64 0,.int .i64 0] 38);(have ⟨v0,v1,v2,v3,_,_,_,_,vl⟩:=V.boxQ);(have C_c0:=C.box.c0);(have C_c1:=C.box.c1);(have ⟨q0,q1,q2⟩:=Q.box3);(have ⟨u0,u1,u2⟩:=U.box3);(have ⟨r0,r1,r2,r3,y0,y1,y2,y3,rl⟩:=R.boxQ))
   exact bodyPost_ret (v:=.tuple #[.agg #[.int .i64 0,.int .i64 0,.int .i64 0,.int .i64 0],.bool false]) (by simp [results,Tryz.results58,go_sem, *]) rfl (⟨rfl,Below.setCell (Below.setCell (Below.setCell (Below.setCell B (by simp;omega) _) (by simp;omega) _) (by simp;omega) _) (by simp;omega) _⟩)
  | some s=>
   replace PL:=fun g W h2=>PL s g W (hto s rfl) h2
   have e1:=Lib.hid (show (some s:M.Sp).isSome=true from rfl)
   rw [e1.out] at PH
   clear e1 hto
   have e2:=Lib.hid (show [(X1,Y1,E1),(X2,Y2,E2)].length=2 from rfl)
   rw [e2.out] at PL
   clear e2
   generalize M.lessS a b (some s) [(X1,Y1,E1),(X2,Y2,E2)]=r at *
   generalize M.in1 (some s)=i1 at *
   generalize M.in2 (some s)=i2 at *
   generalize M.in3 (some s)=i3 at *
   generalize M.in4 (some s)=i4 at *
   generalize M.in1 r=k1 at *
   generalize M.in2 r=k2 at *
   generalize M.in3 r=k3 at *
   generalize M.in4 r=k4 at *
   generalize r.isSome=fr at *
   replace PH:=Lib.hid PH
   replace PL:=Lib.hid PL
   obtain ⟨wc,hw3,C,Q,U,R,B⟩:=fM w #[.int .i64 a,.int .i64 b] 28 #[.int .i64 X1,.int .i64 Y1,.int .i64 E1] 54 #[.int .i64 X2,.int .i64 Y2,.int .i64 E2] 54 #[.int .i64 0,.int .i64 0,.int .i64 0,.int .i64 0] 38
   have C_c0:=C.box.c0
   have C_c1:=C.box.c1
   have ⟨q0,q1,q2⟩:=Q.box3
   have ⟨u0,u1,u2⟩:=U.box3
   go_enter Tryz.func58,Tryz.ntmps58
   go_wp2_with first | (go_at_call 85;(with_reducible refine (PA.out _).mono ?_);rintro e w4 ⟨rfl,hb4⟩;(replace B:=B.trans (hb4.mono B.size));(replace C:=C.keep hb4);(replace Q:=Q.keep hb4);(replace U:=U.keep hb4);(replace R:=R.keep hb4);(replace B:=B.alloc B.size (.cells #[.int .i64 X3,.int .i64 Y3,.int .i64 E3] 54));(replace C:=C.alloc (.cells #[.int .i64 X3,.int .i64 Y3,.int .i64 E3] 54));(replace Q:=Q.alloc (.cells #[.int .i64 X3,.int .i64 Y3,.int .i64 E3] 54));(replace U:=U.alloc (.cells #[.int .i64 X3,.int .i64 Y3,.int .i64 E3] 54));(replace R:=R.alloc (.cells #[.int .i64 X3,.int .i64 Y3,.int .i64 E3] 54));(have S:=aG.new w4 #[.int .i64 X3,.int .i64 Y3,.int .i64 E3] 54);(have ⟨z0,z1,z2⟩:=S.box3);(have C_c0:=C.box.c0);(have C_c1:=C.box.c1);(have ⟨q0,q1,q2⟩:=Q.box3);(have ⟨u0,u1,u2⟩:=U.box3);(have ⟨r0,r1,r2,r3,y0,y1,y2,y3,rl⟩:=R.boxQ)) | (go_at_call 86;(with_reducible refine (PH.out _).mono ?_);rintro e w5 ⟨rfl,hb5⟩;(replace B:=B.trans (hb5.mono B.size));(replace C:=C.keep hb5);(replace Q:=Q.keep hb5);(replace U:=U.keep hb5);(replace R:=R.keep hb5);(replace B:=B.alloc B.size (.cells #[.int .i64 i1,.int .i64 i2,.int .i64 i3,.int .i64 i4] 38));(replace C:=C.alloc (.cells #[.int .i64 i1,.int .i64 i2,.int .i64 i3,.int .i64 i4] 38));(replace Q:=Q.alloc (.cells #[.int .i64 i1,.int .i64 i2,.int .i64 i3,.int .i64 i4] 38));(replace U:=U.alloc (.cells #[.int .i64 i1,.int .i64 i2,.int .i64 i3,.int .i64 i4] 38));(replace R:=R.alloc (.cells #[.int .i64 i1,.int .i64 i2,.int .i64 i3,.int .i64 i4] 38));(have V:=aG.new w5 #[.int .i64 i1,.int .i64 i2,.int .i64 i3,.int .i64 i4] 38);(have ⟨v0,v1,v2,v3,_,_,_,_,vl⟩:=V.boxQ);(have C_c0:=C.box.c0);(have C_c1:=C.box.c1);(have ⟨q0,q1,q2⟩:=Q.box3);(have ⟨u0,u1,u2⟩:=U.box3);(have ⟨r0,r1,r2,r3,y0,y1,y2,y3,rl⟩:=R.boxQ);(replace R:=R.alloc (.cells #[.int .i64 X1,.int .i64 Y1,.int .i64 E1,.int .i64 X2,.int .i64 Y2,.int .i64 E2] 54));(have L:=aG.new (w5.alloc (.cells #[.int .i64 i1,.int .i64 i2,.int .i64 i3,.int .i64 i4] 38)) #[.int .i64 X1,.int .i64 Y1,.int .i64 E1,.int .i64 X2,.int .i64 Y2,.int .i64 E2] 54);(rw [World.size_alloc] at L);(replace L:=Lib.hid (cf.two L))) | (go_at_call 87;(with_reducible refine (PL.out _ _ L.out).mono ?_);rintro e w6 ⟨rfl,hb6⟩;(replace B:=(B.alloc B.size (.cells #[.int .i64 X1,.int .i64 Y1,.int .i64 E1,.int .i64 X2,.int .i64 Y2,.int .i64 E2] 54)).trans (hb6.mono (B.alloc B.size (.cells #[.int .i64 X1,.int .i64 Y1,.int .i64 E1,.int .i64 X2,.int .i64 Y2,.int .i64 E2] 54)).size));(replace R:=R.keep hb6);(have ⟨r0,r1,r2,r3,y0,y1,y2,y3,rl⟩:=R.boxQ))
   exact bodyPost_ret (v:=.tuple #[.agg #[.int .i64 k1,.int .i64 k2,.int .i64 k3,.int .i64 k4],.bool fr]) (by simp [results,Tryz.results58,go_sem, *]) rfl (⟨rfl,Below.setCell (Below.setCell (Below.setCell (Below.setCell B (by simp;omega) _) (by simp;omega) _) (by simp;omega) _) (by simp;omega) _⟩)
abbrev Pt:=Int × Int × Int
def de (W:World) (v:Value) (l:List Pt):Prop:=∃ (a:Option Addr) (cap:Nat),v=.slice a l.length cap∧(l=[]∨∃ g,a=some ⟨g,0,none⟩∧cf W g l)
theorem de.below {w w':World} {v:Value} {l:List Pt} (h:de w v l) (hb:Below w.heap.size w w'):de w' v l:=by
 obtain ⟨a,cap,e,h⟩:=h
 refine ⟨a,cap,e,?_⟩
 rcases h with h | ⟨g,e,h⟩
 ·exact Or.inl h
 ·exact Or.inr ⟨g,e,h.below hb⟩
def j7 (g:Nat) (lb:Array Value) (p:Pt→Bool) (xs:List Pt) (w:World):Prop:=
 ∀ (x:Pt) (_:x ∈ xs) (W:World),Below w.heap.size w W→Calls Tryz.prog g (#[.agg #[.int .i64 x.1,.int .i64 x.2.1,.int .i64 x.2.2]] ++ lb) W fun e W'=>e=.returned (.bool (p x))∧Below W.heap.size W W'
theorem j0 {p:Pt→Bool} {xs:List Pt} {k:Nat} {x:Pt} (hx:xs[k]?=some x) (h:(xs.take k).any p=false) (h':p x=false):(xs.take (k+1)).any p=false:=by
 rw [List.take_add_one,hx,List.any_append,h]
 simpa using h'
theorem lc {p:Pt→Bool} {xs:List Pt} {k:Nat} {x:Pt} (hx:xs[k]?=some x) (h':p x=true):xs.any p=true:=
 List.any_eq_true.2 ⟨x,List.mem_of_getElem? hx,h'⟩
theorem iR (g:Nat) (lb:Array Value) (eg:∀ args w,(callFunc g args).run Tryz.prog w=.ok (.enter g args) w) (p:Pt→Bool) (v:Value) (xs:List Pt) (w:World) (hx:de w v xs) (hn:xs.length≤4) (hp:j7 g lb p xs w) :
  Calls Tryz.prog 80 #[v,.func (.func g) #[] lb] w fun e w'=>∃ r:Int,e=.returned (.int .i64 r)∧(decide (0≤r)=xs.any p∧-1≤r∧r≤4)∧Below w.heap.size w w':=by
 obtain ⟨a,cap,rfl,hv⟩:=hx
 have hv:=Lib.hid hv
 have hp:=Lib.hid hp
 obtain ⟨N,hN⟩:∃ N,Hid (xs.length=N):=⟨_,Lib.hid rfl⟩
 rw [hN.out] at hn ⊢
 go_enter Tryz.func80,Tryz.ntmps80
 go_wp2
 go_loopw [5,8] (fun _ vi wr=>∃ k:Nat,k≤N∧vi=.int .i64 k∧Hid ((xs.take k).any p=false)∧Below w.heap.size w wr) (fun _ vi _=>N - (intOf vi).toNat)
 case atStart=>exact ⟨0,by omega,rfl,Lib.hid rfl,Below.refl _ _⟩
 case round=>
  obtain ⟨k,hk,rfl,hall,hbr⟩:=hrel
  by_cases hlt:k<N
  ·obtain ⟨x,hx⟩:∃ x,xs[k]?=some x:=⟨_,List.getElem?_eq_getElem (by have:=hN.out;omega)⟩
   obtain ⟨b,rfl,hpt⟩:∃ b,a=some ⟨b,0,none⟩∧cf w b xs:=by
    rcases hv.out with h | h
    ·rw [h] at hx;cases hx
    ·exact h
   obtain ⟨d0,d1,d2⟩:=(hpt.below hbr) k x hx
   have hcall:=hp.out x (List.mem_of_getElem? hx) wr hbr
   cases hq:p x
   ·rw [hq] at hcall
    have hcall:=Lib.hid hcall
    have hnx:=Lib.hid (j0 hx hall.out hq)
    clear hx hq hpt
    obtain ⟨x1,x2,x3⟩:=x
    simp only [] at d0 d1 d2 hcall
    go_wp2_with (go_at_fn g;refine (hcall.out).mono ?_;rintro e w2 ⟨rfl,hb2⟩)
    go_roundw
    case rel=>exact ⟨k+1,by omega,by go_num,hnx,aM hbr hb2⟩
    case measure=>simp [intOf];omega
   ·rw [hq] at hcall
    have hcall:=Lib.hid hcall
    have hf:=Lib.hid (lc hx hq)
    clear hx hq hpt
    obtain ⟨x1,x2,x3⟩:=x
    simp only [] at d0 d1 d2 hcall
    go_wp2_with (go_at_fn g;refine (hcall.out).mono ?_;rintro e w2 ⟨rfl,hb2⟩)
    go_ret
    exact ⟨_,rfl,⟨by rw [hf.out];exact decide_eq_true (by omega),by omega,by omega⟩,aM hbr hb2⟩
  ·obtain rfl:k=N:=by omega
   have hall2:=hall
   rw [←hN.out,List.take_length] at hall2
   go_wp2
   go_ret
   exact ⟨_,rfl,⟨by rw [hall2.out];rfl,by omega,by omega⟩,hbr⟩
theorem fF (g:Nat) (lb:Array Value) (eg:∀ args w,(callFunc g args).run Tryz.prog w=.ok (.enter g args) w) (p:Pt→Bool) (v:Value) (xs:List Pt) (w:World) (hx:de w v xs) (hn:xs.length≤4) (hp:j7 g lb p xs w) :
  Calls Tryz.prog 53 #[v,.func (.func g) #[] lb] w fun e w'=>e=.returned (.bool (xs.any p))∧Below w.heap.size w w':=by
 have P:=Lib.hid (iR g lb eg p v xs w hx hn hp)
 generalize xs.any p=t at *
 clear hx hp
 go_enter Tryz.func53,Tryz.ntmps53
 go_wp2_with (go_at_call 80;refine P.out.mono ?_;rintro e w2 ⟨r,rfl,⟨h1,h2,h3⟩,hb2⟩)
 go_ret
 exact ⟨by rw [←h1];simp,hb2⟩
theorem iE (a b X Y E:Int) (cb:Nat) (w:World) (C:aG w cb 28 #[.int .i64 a,.int .i64 b]) :
  Calls Tryz.prog 54 #[.agg #[.int .i64 X,.int .i64 Y,.int .i64 E],.pointer (some ⟨cb,0,none⟩)] w fun e w'=>e=.returned (.bool (!(M.good a b && M.ptOk a b X Y E)))∧Below w.heap.size w w':=by
 have PP:=Lib.hid fun W=>i7 a b X Y E W
 generalize (M.good a b && M.ptOk a b X Y E)=t at *
 have B:=(Below.refl w.heap.size w).alloc (Nat.le_refl _) (.cells #[.int .i64 X,.int .i64 Y,.int .i64 E] 54)
 have C2:=C.alloc (.cells #[.int .i64 X,.int .i64 Y,.int .i64 E] 54)
 have Q:=aG.new w #[.int .i64 X,.int .i64 Y,.int .i64 E] 54
 generalize hw3:w.alloc (.cells #[.int .i64 X,.int .i64 Y,.int .i64 E] 54)=wc at *
 have C_c0:=C2.box.c0
 have C_c1:=C2.box.c1
 have ⟨q0,q1,q2⟩:=Q.box3
 go_enter Tryz.func54,Tryz.ntmps54
 go_wp2_with (go_at_call 55;(with_reducible refine (PP.out _).mono ?_);rintro e w4 ⟨rfl,hb4⟩)
 go_ret
 exact ⟨rfl,B.trans (hb4.mono B.size)⟩
end
end Go.Proofs.YthfjndmdalfloaaGreat
