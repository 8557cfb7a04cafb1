/-
  Joined texts: contracts and plain lemmas.
-/
import Derived.Test.YtgfkcoablfjbcaaGreatDoorB1
import Derived.Test.YtgfkcoablfjbcaaGreatDoorB21
import Derived.Test.YtgfkcoablfjbcaaGreatDoorB8
set_option linter.unusedSimpArgs false
set_option linter.unusedVariables false
set_option maxRecDepth 100000
set_option maxHeartbeats 8000000
namespace Go.Proofs.YtgfkcoablfjbcaaGreatDoor
section
open Go Go.RowKit
namespace Rg
variable {P:Program} {Q:Exit→Act→World→Prop}
def cnt (l:Nat→Bool):List Nat→Nat
 | []=>0
 | c :: cs=>if l c=true then cnt l cs+1 else 0
def jR (ops:Array Oper) (c d:Nat):Bool:=match ops[d]? with
 | some o=>o.after.toList.any (fun e=>Region.binds .any e && e.on == c)
 | none=>false
def eR (ops:Array Oper):List Nat→Bool
 | c :: d :: cs=>jR ops c d && decide (c<d) && eR ops (d :: cs)
 | _=>true
theorem dy {ops:Array Oper} {l:Nat→Bool} {c d:Nat} (hc:ju .any ops l) (he:jR ops c d=true) (hd:l d=true):l c=true:=by
 unfold jR at he
 split at he
 ·rename_i o ho
  obtain ⟨e,h1,h2⟩:=List.any_eq_true.1 he
  rw [Bool.and_eq_true,beq_iff_eq] at h2
  have:=hc d o ho hd e (Array.mem_toList_iff.1 h1) h2.1
  rw [h2.2] at this
  exact this
 cases he
theorem gB {ops:Array Oper} {l:Nat→Bool} {c d:Nat} {o:Oper} (ho:ops[d]?=some o) (hdep:∀ e ∈ o.after,Region.binds .any e=true→l e.on=true) (he:jR ops c d=true):l c=true:=by
 unfold jR at he
 rw [ho] at he
 obtain ⟨e,h1,h2⟩:=List.any_eq_true.1 he
 rw [Bool.and_eq_true,beq_iff_eq] at h2
 have:=hdep e (Array.mem_toList_iff.1 h1) h2.1
 rw [h2.2] at this
 exact this
theorem fL {l:Nat→Bool} {k:Nat}:∀ C:List Nat,k ∉ C→cnt (upd l k) C=cnt l C
 | [],_=>rfl
 | c :: cs,h=>by
  have h1:c≠k:=fun e=>h (by rw [e];exact List.mem_cons_self ..)
  have e:upd l k c=l c:=if_neg h1
  unfold cnt
  rw [e,fL cs (fun hk=>h (List.mem_cons_of_mem _ hk))]
theorem ib {ops:Array Oper} {l:Nat→Bool} {k:Nat} (hc:ju .any ops l) (hk:l k=false) (hdep:∀ c,jR ops c k=true→l c=true):∀ C:List Nat,eR ops C=true→k ∈ C→cnt l C=C.idxOf k∧cnt (upd l k) C=C.idxOf k+1
 | [],_,h=>by cases h
 | [c],_,h=>by
  rcases List.mem_cons.1 h with rfl | h
  ·have e:upd l k k=true:=if_pos rfl
   unfold cnt cnt
   rw [hk,e]
   simp
  cases h
 | c :: d :: cs,ho,h=>by
  unfold eR at ho
  rw [Bool.and_eq_true,Bool.and_eq_true,decide_eq_true_eq] at ho
  obtain ⟨⟨he,hlt⟩,ho⟩:=ho
  by_cases hkc:k=c
  ·subst hkc
   have e:upd l k k=true:=if_pos rfl
   have hd:l d=false:=by
    cases hd:l d
    ·rfl
    rw [dy hc he hd] at hk;cases hk
   have e2:upd l k d=false:=(if_neg (by omega)).trans hd
   have i0:(k :: d :: cs).idxOf k=0:=by simp
   rw [i0]
   unfold cnt
   rw [hk,e]
   unfold cnt
   rw [e2]
   simp
  have hm:k ∈ d :: cs:=(List.mem_cons.1 h).resolve_left hkc
  obtain ⟨h1,h2⟩:=ib hc hk hdep (d :: cs) ho hm
  have hlc:l c=true:=by
   by_cases hkd:k=d
   ·subst hkd;exact hdep c he
   have:l d=true:=by
    cases hd:l d
    ·exfalso
     have z:cnt l (d :: cs)=0:=by unfold cnt;rw [hd];rfl
     have:(d :: cs).idxOf k≠0:=by
      rw [List.idxOf_cons]
      have:(d == k)=false:=by rw [beq_eq_false_iff_ne];exact fun e=>hkd e.symm
      rw [this]
      simp
     omega
    rfl
   exact dy hc he this
  have e:upd l k c=l c:=if_neg (fun e=>hkc e.symm)
  have i0:(c :: d :: cs).idxOf k=(d :: cs).idxOf k+1:=by
   rw [List.idxOf_cons]
   have:(c == k)=false:=by rw [beq_eq_false_iff_ne];exact fun e=>hkc e.symm
   rw [this]
   rfl
  rw [i0]
  unfold cnt
  rw [e,hlc,if_pos rfl,if_pos rfl,h1,h2]
  exact ⟨rfl,rfl⟩
theorem mW {g:Nat} {w1 w w':World} {Tb:TypeId} {x u v y:Value} (h:Below w1.heap.size (w1.setCell ⟨g,0,none⟩ x) w) (K1:aH w1 g Tb #[u]) (K:aH w g Tb #[v]) (hb:Below w.heap.size (w.setCell ⟨g,0,none⟩ y) w'):Below w1.heap.size (w1.setCell ⟨g,0,none⟩ y) w':=by
 have hs:w1.heap.size≤w.heap.size:=by have:=h.size;rw [bO] at this;exact this
 refine ⟨hb.os.trans h.os,hb.tape.trans h.tape,hb.output.trans h.output,?_,fun k hk=>?_⟩
 ·rw [bO]
  have:=hb.size
  rw [bO] at this
  omega
 rw [hb.block k (by omega)]
 by_cases hg:k=g
 ·subst hg
  exact (K.one y).trans (K1.one y).symm
 rw [Below.heap_setCell _ _ _ _ hg,h.block k hk,Below.heap_setCell _ _ _ _ hg,Below.heap_setCell _ _ _ _ hg]
theorem fg {g:Nat} {w w':World} {Tb:TypeId} {v:Value} (K:aH w g Tb #[v]) (hb:Below w.heap.size w w'):Below w.heap.size (w.setCell ⟨g,0,none⟩ v) w':=by
 refine ⟨hb.os,hb.tape,hb.output,by rw [bO];exact hb.size,fun k hk=>?_⟩
 rw [hb.block k hk]
 by_cases hg:k=g
 ·subst hg;exact K.trans (K.one v).symm
 rw [Below.heap_setCell _ _ _ _ hg]
section
variable (P) (Q) (ops:Array Oper) (a0:Act) (T:List Val) (w1:World) (g:Nat) (Tb:TypeId) (F:Nat→Value) (C:List Nat) (ka ks:Nat) (Tn:TypeId) (xs ys:Array Value)
def Held (w:World):Prop:=w1.heap.size≤w.heap.size∧∀ (b:Nat) (U:TypeId) (zs:Array Value),b≠g→aH w1 b U zs→aH w b U zs
def nK (h:Nat) (o:Oper) (a:Act) (w:World) (t:Nat):Prop:=
 match o.after.toList.find? (fun e=>Region.binds .any e && ((ops[e.on]?).bind (·.dst)) == some t) with
 | some e=>if e.on=ka then a.tmps[t]?=some (.pointer (some ⟨h,0,none⟩)) else if e.on=ks then True else ∃ v,a.tmps[t]?=some v∧(tbl T e.on).ok v w
 | none=>a.tmps[t]?=a0.tmps[t]?
def iR (o:Oper) (a:Act) (w:World) (t:Nat):Prop:=
 match o.after.toList.find? (fun e=>Region.binds .any e && ((ops[e.on]?).bind (·.dst)) == some t) with
 | some e=>if e.on=ka then True else if e.on=ks then True else ∃ v,a.tmps[t]?=some v∧(tbl T e.on).ok v w
 | none=>a.tmps[t]?=a0.tmps[t]?
def cM (k:Nat) (o:Oper):Prop:=
 if k=ka then ∀ (a:Act) (w:World),Region.wanted o (yielded ops a.tmps)=true∧o.wp P a w (fun a' w'=>a'=a.put o.dst (.pointer (some ⟨w.heap.size,0,none⟩))∧w'=w.alloc (.cells xs Tn)) Q
 else if k=ks then ∀ (a:Act) (w:World) (h:Nat),w1.heap.size≤h→aH w h Tn xs→(∀ t ∈ o.looksAt ops,nK ops a0 T ka ks h o a w t)→Region.wanted o (yielded ops a.tmps)=true∧o.wp P a w (fun a' w'=>(∃ v,a'=a.put o.dst v)∧aH w' h Tn ys∧Below w1.heap.size w w') Q
 else if k ∈ C then ∀ (a:Act) (w:World),aH w g Tb #[F (C.idxOf k)]→Held w1 g w→(∀ t ∈ o.looksAt ops,iR ops a0 T ka ks o a w t)→Region.wanted o (yielded ops a.tmps)=true∧o.wp P a w (fun a' w'=>∃ v,a'=a.put o.dst v∧(tbl T k).ok v w'∧Below w.heap.size (w.setCell ⟨g,0,none⟩ (F (C.idxOf k+1))) w') Q
 else ∀ (a:Act) (w:World),Held w1 g w→(∀ t ∈ o.looksAt ops,iR ops a0 T ka ks o a w t)→Does P ops Q (tbl T k) o a w
def pg:List Oper→Nat→Prop
 | [],_=>True
 | o :: os,k=>cM P Q ops a0 T w1 g Tb F C ka ks Tn xs ys k o∧pg os (k+1)
def tJ (l:Nat→Bool) (vals:Nat→Value) (w:World):Prop:=
 Below w1.heap.size (w1.setCell ⟨g,0,none⟩ (F (cnt l C))) w∧(∀ i,i≠ka→i≠ks→l i=true→(tbl T i).ok (vals i) w)∧(l ka=true→∃ h,w1.heap.size≤h∧vals ka=.pointer (some ⟨h,0,none⟩)∧aH w h Tn (if l ks=true then ys else xs))
end
theorem rI {ops:Array Oper} {a0:Act} {T:List Val} {w1:World} {g:Nat} {Tb:TypeId} {F:Nat→Value} {C:List Nat} {ka ks:Nat} {Tn:TypeId} {xs ys:Array Value}
  (K1:aH w1 g Tb #[F 0]) (hp:∀ j,j≠ka→j≠ks→(tbl T j).pure=true) (hC:eR ops C=true) (hka:ka ∉ C) (hks:ks ∉ C) (hne:ka≠ks) (hE:jR ops ka ks=true) :
  ∀ (os:List Oper) (k:Nat),(∀ i,os[i]?=ops[k+i]?)→pg P Q ops a0 T w1 g Tb F C ka ks Tn xs ys os k→ft P Q .any ops (tJ T w1 g F C ka ks Tn xs ys) a0 os k
 | [],_,_,_=>trivial
 | o :: os,k,hos,h=>by
  refine ⟨fun a w l vals hI hl hc hdep hr=>?_,rI K1 hp hC hka hks hne hE os (k+1) (fun i=>by rw [show k+1+i=k+(i+1) by omega,←hos (i+1)];rfl) h.2⟩
  obtain ⟨hB,hv,hn⟩:=hI
  have ho:ops[k]?=some o:=(hos 0).symm
  have hgl:g<w1.heap.size:=K1.lt
  have hsz:w1.heap.size≤w.heap.size:=by have:=hB.size;rw [bO] at this;exact this
  have K:aH w g Tb #[F (cnt l C)]:=(K1.one (F (cnt l C))).keep (cE hB)
  have hH:Held w1 g w:=⟨hsz,fun b U zs hb hz=>(hz.other hb _).keep (cE hB)⟩
  have hQ:∀ t ∈ o.looksAt ops,iR ops a0 T ka ks o a w t:=fun t ht=>by
   have:=hr t ht
   unfold rd at this
   unfold iR
   split
   ·rename_i e he
    rw [he] at this
    have h2:=List.find?_some he
    rw [Bool.and_eq_true] at h2
    split
    ·trivial
    split
    ·trivial
    rename_i n1 n2
    exact ⟨_,this,hv _ n1 n2 (hdep e (Array.mem_toList_iff.1 (List.mem_of_find?_eq_some he)) h2.1)⟩
   rename_i he
   rw [he] at this
   exact this
  have hko:∀ j,j≠k→upd l k j=l j:=fun j hj=>if_neg hj
  have hkk:upd l k k=true:=if_pos rfl
  have h1:=h.1
  unfold cM at h1
  unfold ki
  by_cases e1:k=ka
  ·rw [if_pos e1] at h1
   obtain ⟨hw,hwp⟩:=h1 a w
   rw [if_pos hw]
   refine Oper.wp_mono ?_ hwp
   rintro a' w' ⟨rfl,rfl⟩
   subst e1
   have hls:l ks=false:=by
    cases q:l ks
    ·rfl
    rw [dy hc hE q] at hl;cases hl
   refine ⟨_,rfl,?_,?_,fun _=>⟨w.heap.size,hsz,if_pos rfl,?_⟩⟩
   ·rw [fL C hka]
    exact hB.alloc hsz _
   ·intro i n1 n2 hi
    rw [hko i n1] at hi
    have:eA vals k (.pointer (some ⟨w.heap.size,0,none⟩)) i=vals i:=if_neg n1
    rw [this]
    exact Val.dR (hp i n1 n2) (hv i n1 n2 hi)
   rw [hko ks (fun e=>hne e.symm),hls]
   exact aH.new w xs Tn
  rw [if_neg e1] at h1
  by_cases e2:k=ks
  ·rw [if_pos e2] at h1
   subst e2
   obtain ⟨hh,hh1,hh2,hh3⟩:=hn (gB ho hdep hE)
   rw [hl] at hh3
   obtain ⟨hw,hwp⟩:=h1 a w hh hh1 hh3 (fun t ht=>by
    have:=hr t ht
    unfold rd at this
    unfold nK
    split
    ·rename_i e he
     rw [he] at this
     have h2:=List.find?_some he
     rw [Bool.and_eq_true] at h2
     split
     ·rename_i q
      replace this:a.tmps[t]?=some (vals e.on):=this
      rw [q,hh2] at this
      exact this
     split
     ·trivial
     rename_i n1 n2
     exact ⟨_,this,hv _ n1 n2 (hdep e (Array.mem_toList_iff.1 (List.mem_of_find?_eq_some he)) h2.1)⟩
    rename_i he
    rw [he] at this
    exact this)
   rw [if_pos hw]
   refine Oper.wp_mono ?_ hwp
   rintro a' w' ⟨⟨v,e⟩,h2,h3⟩
   refine ⟨v,e,?_,?_,fun _=>⟨hh,hh1,?_,?_⟩⟩
   ·rw [fL C hks]
    exact hB.trans h3
   ·intro i n1 n2 hi
    rw [hko i n2] at hi
    have:eA vals k v i=vals i:=if_neg n2
    rw [this]
    exact Val.dR (hp i n1 n2) (hv i n1 n2 hi)
   ·have:eA vals k v ka=vals ka:=if_neg hne
    rw [this];exact hh2
   rw [hkk];exact h2
  rw [if_neg e2] at h1
  have rest:∀ (v:Value) (w':World) (y:Value),y=F (cnt (upd l k) C)→(tbl T k).ok v w'→Below w.heap.size (w.setCell ⟨g,0,none⟩ y) w'→tJ T w1 g F C ka ks Tn xs ys (upd l k) (eA vals k v) w':=by
   intro v w' y hy h2 h3
   subst hy
   refine ⟨mW hB K1 K h3,?_,?_⟩
   ·intro i n1 n2 hi
    by_cases hik:i=k
    ·subst hik
     have:eA vals i v i=v:=if_pos rfl
     rw [this];exact h2
    rw [hko i hik] at hi
    have:eA vals k v i=vals i:=if_neg hik
    rw [this]
    exact Val.dR (hp i n1 n2) (hv i n1 n2 hi)
   intro hi
   rw [hko ka (fun e=>e1 e.symm)] at hi
   obtain ⟨hh,hh1,hh2,hh3⟩:=hn hi
   refine ⟨hh,hh1,?_,?_⟩
   ·have:eA vals k v ka=vals ka:=if_neg (fun e=>e1 e.symm)
    rw [this];exact hh2
   rw [hko ks (fun e=>e2 e.symm)]
   exact (hh3.other (by omega) _).keep (cE h3)
  by_cases e3:k ∈ C
  ·rw [if_pos e3] at h1
   obtain ⟨q1,q2⟩:=ib hc hl (fun c hcd=>gB ho hdep hcd) C hC e3
   rw [q1] at K
   obtain ⟨hw,hwp⟩:=h1 a w K hH hQ
   rw [if_pos hw]
   refine Oper.wp_mono ?_ hwp
   rintro a' w' ⟨v,e,h2,h3⟩
   exact ⟨v,e,rest v w' _ (by rw [q2]) h2 h3⟩
  rw [if_neg e3] at h1
  have hd:=h1 a w hH hQ
  unfold Does at hd
  split
  ·rename_i hw
   rw [if_pos hw] at hd
   refine Oper.wp_mono ?_ hd
   rintro a' w' ⟨v,e,h2,h3⟩
   exact ⟨v,e,rest v w' _ (by rw [fL C e3]) h2 (fg K h3)⟩
  rename_i hw
  rw [if_neg hw] at hd
  exact rest undef w _ (by rw [fL C e3]) hd (fg K (uk _ _))
theorem ug {id:Nat} {ops:Array Oper} {a0:Act} {w:World} (g:Nat) (Tb:TypeId) (F:Nat→Value) (C:List Nat) (ka ks:Nat) (Tn:TypeId) (xs ys:Array Value) (T:List Val)
  (hm:P.follows .mixedOrders=true) (hok:dz .any ops a0.tmps.size=true) (hC:(eR ops C && jR ops ka ks && decide (ka<ops.size) && decide (ks<ops.size))=true)
  (hp:∀ j,j≠ka→j≠ks→(tbl T j).pure=true) (hka:ka ∉ C) (hks:ks ∉ C) (hne:ka≠ks) (hcl:∀ c ∈ C,c<ops.size) (K1:aH w g Tb #[F 0])
  (hR:pg P Q ops a0 T w g Tb F C ka ks Tn xs ys ops.toList 0)
  (hF:∀ (vals:Nat→Value) (w':World) (h:Nat),w.heap.size≤h→aH w' h Tn ys→vals ka=.pointer (some ⟨h,0,none⟩)→Below w.heap.size (w.setCell ⟨g,0,none⟩ (F C.length)) w'→(∀ i,i<ops.size→i≠ka→i≠ks→(tbl T i).ok (vals i) w')→Q .normal (fill (fun _=>true) vals ops.toList 0 a0) w'):(Code.region id ops true).wp P Q a0 w:=by
 rw [Bool.and_eq_true,Bool.and_eq_true,Bool.and_eq_true,decide_eq_true_eq,decide_eq_true_eq] at hC
 obtain ⟨⟨⟨hC,hE⟩,ha⟩,hs⟩:=hC
 have c0:∀ C:List Nat,cnt (fun _=>false) C=0:=fun C=>by cases C <;> rfl
 have cl:∀ (l:Nat→Bool) (C:List Nat),(∀ c ∈ C,l c=true)→cnt l C=C.length:=fun l C=>by
  induction C with
  | nil=>intro _;rfl
  | cons c cs ih=>
  intro h
  unfold cnt
  rw [if_pos (h c (List.mem_cons_self ..)),ih (fun x hx=>h x (List.mem_cons_of_mem _ hx))]
  rfl
 refine kQ (tJ T w g F C ka ks Tn xs ys) hm hok (fun vals=>⟨?_,(fun _ _ _ h=>absurd h (by simp)),(fun h=>absurd h (by simp))⟩) (rI K1 hp hC hka hks hne hE ops.toList 0 (fun i=>by rw [Nat.zero_add];exact Array.getElem?_toList) hR) ?_
 ·rw [c0]
  exact fg K1 ((uk _ w).drew)
 intro l vals w' hl hI
 obtain ⟨h1,h2,h3⟩:=hI
 obtain ⟨h,q1,q2,q3⟩:=h3 (hl ka ha)
 rw [hl ks hs,if_pos rfl] at q3
 rw [cl l C (fun c hc=>hl c (hcl c hc))] at h1
 exact hF vals w' h q1 q3 q2 h1 (fun i hi n1 n2=>h2 i n1 n2 (hl i hi))
theorem uK {ops:Array Oper} {o:Oper} {a:Act} {w:World} {V:Val} {f:FuncId} {args:Array Value} {g:Nat} {y:Value} (hw:Region.wanted o (yielded ops a.tmps)=true) (h:(execOp a.eval o).run P w=.ok (.enter f args) w)
  (hc:Calls P f args w fun e w'=>∃ v,e=.returned v∧V.ok v w'∧Below w.heap.size (w.setCell ⟨g,0,none⟩ y) w'):Region.wanted o (yielded ops a.tmps)=true∧o.wp P a w (fun a' w'=>∃ v,a'=a.put o.dst v∧V.ok v w'∧Below w.heap.size (w.setCell ⟨g,0,none⟩ y) w') Q:=by
 refine ⟨hw,?_⟩
 unfold Oper.wp
 rw [h]
 refine Calls.mono hc ?_
 rintro e w' ⟨v,rfl,h1,h2⟩
 exact ⟨v,rfl,h1,h2⟩
theorem fz {ops:Array Oper} {o:Oper} {a:Act} {w:World} {v:Value} {f:FuncId} {args:Array Value} {g:Nat} {y:Value} (hw:Region.wanted o (yielded ops a.tmps)=true) (h:(execOp a.eval o).run P w=.ok (.enter f args) w)
  (hc:Calls P f args w fun e w'=>e=.returned v∧Below w.heap.size (w.setCell ⟨g,0,none⟩ y) w'):Region.wanted o (yielded ops a.tmps)=true∧o.wp P a w (fun a' w'=>∃ u,a'=a.put o.dst u∧(Val.is v).ok u w'∧Below w.heap.size (w.setCell ⟨g,0,none⟩ y) w') Q:=
 uK hw h (hc.mono fun _ _ ⟨e,b⟩=>⟨v,e,rfl,b⟩)
theorem mU {ops:Array Oper} {o:Oper} {a:Act} {w:World} {ob:Obj} (hw:Region.wanted o (yielded ops a.tmps)=true) (h:(execOp a.eval o).run P w=.ok (.value (.pointer (some ⟨w.heap.size,0,none⟩))) (w.alloc ob)):Region.wanted o (yielded ops a.tmps)=true∧o.wp P a w (fun a' w'=>a'=a.put o.dst (.pointer (some ⟨w.heap.size,0,none⟩))∧w'=w.alloc ob) Q:=by
 refine ⟨hw,?_⟩
 unfold Oper.wp
 rw [h]
 exact ⟨rfl,rfl⟩
end Rg
end
section
open Go.RowKit
namespace M
theorem mn (s1 s2 s3:Sp):ch (ch s1 s2) s3=gd (gd (gd (gd s1.isSome s2).isSome (ch s1 (gd s1.isSome s2))).isSome s3).isSome (ch (gd (gd s1.isSome s2).isSome (ch s1 (gd s1.isSome s2))) (gd (gd (gd s1.isSome s2).isSome (ch s1 (gd s1.isSome s2))).isSome s3)):=by
 cases s1 with
 | none=>rfl
 | some p=>cases s2 with
  | none=>rfl
  | some q=>
  show ch (ch (some p) (some q)) s3=gd (gd (gd true (ch (some p) (some q))).isSome s3).isSome (ch (gd true (ch (some p) (some q))) (gd (gd true (ch (some p) (some q))).isSome s3))
  rw [j9]
  cases ch (some p) (some q) with
  | none=>rfl
  | some u=>cases s3 <;> rfl
end M
theorem pD (a b X1 Y1 E1 X2 Y2 E2:Int) (w:World) (hg:M.good a b=true) (hp:M.bR a b X1 Y1 E1=true) (hq:M.bR a b X2 Y2 E2=true) :
  Calls Tryz.prog 41 #[.agg #[.int .i64 a,.int .i64 b],.agg #[.int .i64 X1,.int .i64 Y1,.int .i64 E1],.agg #[.int .i64 X2,.int .i64 Y2,.int .i64 E2]] w fun e w'=>e=.returned (.tuple #[.agg #[.int .i64 (M.slo (M.dP a b X1 Y1 E1 X2 Y2 E2)),.int .i64 (M.shi (M.dP a b X1 Y1 E1 X2 Y2 E2))],.bool (M.dP a b X1 Y1 E1 X2 Y2 E2).isSome])∧Below w.heap.size w w':=by
 have PA:=fun W=>kk a b X1 Y1 E1 X2 Y2 E2 W hg hp hq
 have hin:=M.bE hg
 have hs:=M.pq hin hp hq
 obtain ⟨p1,p2,p3,p4,-,-⟩:=M.d6 hin hp
 obtain ⟨r1,r2,r3,r4,-,-⟩:=M.d6 hin hq
 obtain ⟨s1,s2,s3,s4,-,-⟩:=M.d6 hin hs
 have hv:=uh (show M.dP a b X1 Y1 E1 X2 Y2 E2=if M.eD a X1 Y1 E1 X2 Y2 E2=true then M.ch (M.ch (M.bc a b (M.ff a X1 Y1 E1 X2 Y2 E2) (M.fd a X1 Y1 E1 X2 Y2 E2)) (M.bc a b X1 E1)) (M.bc a b X2 E2) else none from rfl)
 rw [hv.out]
 clear hv hs hp hq
 generalize M.ff a X1 Y1 E1 X2 Y2 E2=X3 at *
 generalize M.gy a X1 Y1 E1 X2 Y2 E2=Y3 at *
 generalize M.fd a X1 Y1 E1 X2 Y2 E2=E3 at *
 generalize M.eD a X1 Y1 E1 X2 Y2 E2=ok at *
 cases ok with
 | false=>
  replace PA:=uh PA
  have hn:=uh (show (if (false=true) then M.ch (M.ch (M.bc a b X3 E3) (M.bc a b X1 E1)) (M.bc a b X2 E2) else none)=none from rfl)
  rw [hn.out]
  clear hn
  obtain ⟨wc,hw3,C,Q,U,R,B⟩:=jt w #[.int .i64 a,.int .i64 b] 28 #[.int .i64 X1,.int .i64 Y1,.int .i64 E1] 45 #[.int .i64 X2,.int .i64 Y2,.int .i64 E2] 45 #[.int .i64 0,.int .i64 0] 61
  have C_c0:=C.box.c0
  have C_c1:=C.box.c1
  have ⟨q0,q1,q2⟩:=Q.aQ
  have ⟨u0,u1,u2⟩:=U.aQ
  go_enter Tryz.func41,Tryz.ntmps41
  go_wp2_with (go_at_call 61;(with_reducible refine (PA.out _).mono ?_);rintro e w4 ⟨rfl,hb4⟩;(have hz4:=Nat.lt_of_lt_of_le R.lt hb4.size);(replace B:=((B.trans (hb4.mono B.size)).alloc (Nat.le_trans B.size hb4.size) (.cells #[.int .i64 X3,.int .i64 Y3,.int .i64 E3] 45)).alloc (by rw [ui];exact Nat.le_succ_of_le (Nat.le_trans B.size hb4.size)) (.cells #[.bool false] 92));(replace C:=((C.keep hb4).alloc (.cells #[.int .i64 X3,.int .i64 Y3,.int .i64 E3] 45)).alloc (.cells #[.bool false] 92));(replace Q:=((Q.keep hb4).alloc (.cells #[.int .i64 X3,.int .i64 Y3,.int .i64 E3] 45)).alloc (.cells #[.bool false] 92));(replace U:=((U.keep hb4).alloc (.cells #[.int .i64 X3,.int .i64 Y3,.int .i64 E3] 45)).alloc (.cells #[.bool false] 92));(replace R:=((R.keep hb4).alloc (.cells #[.int .i64 X3,.int .i64 Y3,.int .i64 E3] 45)).alloc (.cells #[.bool false] 92));(have S:=(aH.new w4 #[.int .i64 X3,.int .i64 Y3,.int .i64 E3] 45).alloc (.cells #[.bool false] 92));(have K:=aH.new (w4.alloc (.cells #[.int .i64 X3,.int .i64 Y3,.int .i64 E3] 45)) #[.bool false] 92);(rw [ui] at K);(have ⟨r0,r1,zf0,zf1,rl⟩:=R.box))
  exact bodyPost_ret (v:=.tuple #[.agg #[.int .i64 0,.int .i64 0],.bool false]) (by simp [results,Tryz.results41,go_sem, *]) rfl (⟨rfl,uj (uj B (by simp;omega) _) (by simp;omega) _⟩)
 | true=>
 rw [if_pos rfl,M.mn]
 have o1:=M.dw (a:=a) (b:=b) hin s1 s2 s3 s4
 have PB1:=fun g_ W K=>iH g_ true a b X3 Y3 E3 W K hg s1 s2 s3 s4
 have PB2:=fun g_ ok W K=>iH g_ ok a b X1 Y1 E1 W K hg p1 p2 p3 p4
 have PB3:=fun g_ ok W K=>iH g_ ok a b X2 Y2 E2 W K hg r1 r2 r3 r4
 have o2:=M.dw (a:=a) (b:=b) hin p1 p2 p3 p4
 have o3:=M.dw (a:=a) (b:=b) hin r1 r2 r3 r4
 simp only [M.j9] at PB1
 generalize M.bc a b X3 E3=t1 at *
 replace PB2:=fun g_=>PB2 g_ t1.isSome
 generalize M.bc a b X1 E1=t2 at *
 obtain ⟨t3,ht3⟩:∃ t,t=M.gd t1.isSome t2:=⟨_,rfl⟩
 have o4:M.okS t3:=by rw [ht3];exact M.mj o2
 have i3:t3.isSome=true→t1.isSome=true:=fun h=>by rw [ht3] at h;exact (M.jY h).1
 rw [←ht3] at PB2 ⊢
 have PM1:=fun g_ W K=>lQ g_ t3.isSome t1 t3 W K o1 o4 i3 (fun h=>h)
 obtain ⟨t4,ht4⟩:∃ t,t=M.gd t3.isSome (M.ch t1 t3):=⟨_,rfl⟩
 have o5:M.okS t4:=by rw [ht4];exact M.mj M.kK
 rw [←ht4] at PM1 ⊢
 replace PB3:=fun g_=>PB3 g_ t4.isSome
 generalize M.bc a b X2 E2=t5 at *
 obtain ⟨t6,ht6⟩:∃ t,t=M.gd t4.isSome t5:=⟨_,rfl⟩
 have o6:M.okS t6:=by rw [ht6];exact M.mj o3
 have i6:t6.isSome=true→t4.isSome=true:=fun h=>by rw [ht6] at h;exact (M.jY h).1
 rw [←ht6] at PB3 ⊢
 have PM2:=fun g_ W K=>lQ g_ t6.isSome t4 t6 W K o5 o6 i6 (fun h=>h)
 generalize M.gd t6.isSome (M.ch t4 t6)=t7 at *
 clear ht3 ht4 ht6 o1 o2 o3 o4 o5 o6 i3 i6 t5 t2 hg hin
 generalize t1.isSome=f1 at *
 generalize M.slo t1=l1 at *
 generalize M.shi t1=h1 at *
 generalize t3.isSome=f3 at *
 generalize M.slo t3=l3 at *
 generalize M.shi t3=h3 at *
 generalize t4.isSome=f4 at *
 generalize M.slo t4=l4 at *
 generalize M.shi t4=h4 at *
 generalize t6.isSome=f6 at *
 generalize M.slo t6=l6 at *
 generalize M.shi t6=h6 at *
 generalize t7.isSome=f7 at *
 generalize M.slo t7=l7 at *
 generalize M.shi t7=h7 at *
 replace PA:=uh PA
 replace PB1:=uh PB1
 replace PB2:=uh PB2
 replace PB3:=uh PB3
 replace PM1:=uh PM1
 replace PM2:=uh PM2
 obtain ⟨wc,hw3,C,Q,U,R,B⟩:=jt w #[.int .i64 a,.int .i64 b] 28 #[.int .i64 X1,.int .i64 Y1,.int .i64 E1] 45 #[.int .i64 X2,.int .i64 Y2,.int .i64 E2] 45 #[.int .i64 0,.int .i64 0] 61
 have C_c0:=C.box.c0
 have C_c1:=C.box.c1
 have ⟨q0,q1,q2⟩:=Q.aQ
 have ⟨u0,u1,u2⟩:=U.aQ
 go_enter Tryz.func41,Tryz.ntmps41
 go_upto_region 5 with (go_at_call 61;(with_reducible refine (PA.out _).mono ?_);rintro e w4 ⟨rfl,hb4⟩;(have hz4:=Nat.lt_of_lt_of_le R.lt hb4.size);(replace B:=((B.trans (hb4.mono B.size)).alloc (Nat.le_trans B.size hb4.size) (.cells #[.int .i64 X3,.int .i64 Y3,.int .i64 E3] 45)).alloc (by rw [ui];exact Nat.le_succ_of_le (Nat.le_trans B.size hb4.size)) (.cells #[.bool true] 92));(replace C:=((C.keep hb4).alloc (.cells #[.int .i64 X3,.int .i64 Y3,.int .i64 E3] 45)).alloc (.cells #[.bool true] 92));(replace Q:=((Q.keep hb4).alloc (.cells #[.int .i64 X3,.int .i64 Y3,.int .i64 E3] 45)).alloc (.cells #[.bool true] 92));(replace U:=((U.keep hb4).alloc (.cells #[.int .i64 X3,.int .i64 Y3,.int .i64 E3] 45)).alloc (.cells #[.bool true] 92));(replace R:=((R.keep hb4).alloc (.cells #[.int .i64 X3,.int .i64 Y3,.int .i64 E3] 45)).alloc (.cells #[.bool true] 92));(have S:=(aH.new w4 #[.int .i64 X3,.int .i64 Y3,.int .i64 E3] 45).alloc (.cells #[.bool true] 92));(have K:=aH.new (w4.alloc (.cells #[.int .i64 X3,.int .i64 Y3,.int .i64 E3] 45)) #[.bool true] 92);(rw [ui] at K);(have ⟨r0,r1,zf0,zf1,rl⟩:=R.box))
 generalize (w4.alloc (.cells #[.int .i64 X3,.int .i64 Y3,.int .i64 E3] 45)).alloc (.cells #[.bool true] 92)=wd at *
 have hsl:=S.lt
 have rl2:=R.lt
 have hw4:w.heap.size+4≤w4.heap.size:=by omega
 have nC:w.heap.size≠w4.heap.size+1:=by omega
 have nQ:w.heap.size+1≠w4.heap.size+1:=by omega
 have nU:w.heap.size+1+1≠w4.heap.size+1:=by omega
 have nR:w.heap.size+1+1+1≠w4.heap.size+1:=by omega
 have nS:w4.heap.size≠w4.heap.size+1:=by omega
 have nB:w.heap.size≤w4.heap.size+1:=by omega
 refine Rg.ug (w4.heap.size+1) 92 (fun n=>match n with | 0=>.bool true | 1=>.bool f1 | 2=>.bool f3 | 3=>.bool f4 | 4=>.bool f6 | _=>.bool f7) [5,9,10,14,15] 16 17 61 #[.int .i64 0,.int .i64 0] #[.int .i64 l7,.int .i64 h7] [.is (.pointer (some ⟨w4.heap.size+1,0,none⟩)),.is (.pointer (some ⟨w4.heap.size+1,0,none⟩)),.is (.pointer (some ⟨w4.heap.size+1,0,none⟩)),.is (.agg #[.int .i64 a,.int .i64 b]),.is (.agg #[.int .i64 X3,.int .i64 Y3,.int .i64 E3]),.is (.agg #[.int .i64 l1,.int .i64 h1]),.is (.pointer (some ⟨w4.heap.size+1,0,none⟩)),.is (.agg #[.int .i64 a,.int .i64 b]),.is (.agg #[.int .i64 X1,.int .i64 Y1,.int .i64 E1]),.is (.agg #[.int .i64 l3,.int .i64 h3]),.is (.agg #[.int .i64 l4,.int .i64 h4]),.is (.pointer (some ⟨w4.heap.size+1,0,none⟩)),.is (.agg #[.int .i64 a,.int .i64 b]),.is (.agg #[.int .i64 X2,.int .i64 Y2,.int .i64 E2]),.is (.agg #[.int .i64 l6,.int .i64 h6]),.is (.agg #[.int .i64 l7,.int .i64 h7]),.is (undef),.is (undef)] (by kernel_rfl) (by kernel_rfl) (by kernel_rfl) (fun j h1 h2=>match j,h1,h2 with | 0,h1,h2=>rfl | 1,h1,h2=>rfl | 2,h1,h2=>rfl | 3,h1,h2=>rfl | 4,h1,h2=>rfl | 5,h1,h2=>rfl | 6,h1,h2=>rfl | 7,h1,h2=>rfl | 8,h1,h2=>rfl | 9,h1,h2=>rfl | 10,h1,h2=>rfl | 11,h1,h2=>rfl | 12,h1,h2=>rfl | 13,h1,h2=>rfl | 14,h1,h2=>rfl | 15,h1,h2=>rfl | 16,h1,h2=>absurd rfl h1 | 17,h1,h2=>absurd rfl h2 | n+18,_,_=>rfl) (by decide) (by decide) (by decide) (by decide) K ⟨?_,?_,?_,?_,?_,?_,?_,?_,?_,?_,?_,?_,?_,?_,?_,?_,?_,?_,trivial⟩ ?_
 ·unfold Rg.cM
  rw [if_neg (by decide),if_neg (by decide),if_neg (by decide)]
  intro ac_ w_ hH hr
  have e10:ac_.tmps[10]?=some (.pointer (some ⟨w4.heap.size+1,0,none⟩)):=hr 10 (by decide)
  exact Rg.aG rfl (by go_simp)
 ·unfold Rg.cM
  rw [if_neg (by decide),if_neg (by decide),if_neg (by decide)]
  intro ac_ w_ hH hr
  have e10:ac_.tmps[10]?=some (.pointer (some ⟨w4.heap.size+1,0,none⟩)):=hr 10 (by decide)
  exact Rg.aG rfl (by go_simp)
 ·unfold Rg.cM
  rw [if_neg (by decide),if_neg (by decide),if_neg (by decide)]
  intro ac_ w_ hH hr
  have e10:ac_.tmps[10]?=some (.pointer (some ⟨w4.heap.size+1,0,none⟩)):=hr 10 (by decide)
  exact Rg.aG rfl (by go_simp)
 ·unfold Rg.cM
  rw [if_neg (by decide),if_neg (by decide),if_neg (by decide)]
  intro ac_ w_ hH hr
  have e3:ac_.tmps[3]?=some (.pointer (some ⟨w.heap.size,0,none⟩)):=hr 3 (by decide)
  have k0:=(hH.2 _ _ _ nC C).box.c0
  have k1:=(hH.2 _ _ _ nC C).box.c1
  exact Rg.aG rfl (by go_simp)
 ·unfold Rg.cM
  rw [if_neg (by decide),if_neg (by decide),if_neg (by decide)]
  intro ac_ w_ hH hr
  have e8:ac_.tmps[8]?=some (.pointer (some ⟨w4.heap.size,0,none⟩)):=hr 8 (by decide)
  have k0:=(hH.2 _ _ _ nS S).aQ.1
  have k1:=(hH.2 _ _ _ nS S).aQ.2.1
  have k2:=(hH.2 _ _ _ nS S).aQ.2.2
  exact Rg.aG rfl (by go_simp)
 ·unfold Rg.cM
  rw [if_neg (by decide),if_neg (by decide),if_pos (by decide)]
  intro ac_ w_ K_ hH hr
  replace K_:aH w_ (w4.heap.size+1) 92 #[.bool true]:=K_
  have e27:=Rg.ev1 (hr 27 (by decide))
  have e28:=Rg.ev1 (hr 28 (by decide))
  have e29:=Rg.ev1 (hr 29 (by decide))
  have ef:=Rg.ef ac_
  exact Rg.fz rfl (by go_simp) (PB1.out _ _ K_)
 ·unfold Rg.cM
  rw [if_neg (by decide),if_neg (by decide),if_neg (by decide)]
  intro ac_ w_ hH hr
  have e10:ac_.tmps[10]?=some (.pointer (some ⟨w4.heap.size+1,0,none⟩)):=hr 10 (by decide)
  exact Rg.aG rfl (by go_simp)
 ·unfold Rg.cM
  rw [if_neg (by decide),if_neg (by decide),if_neg (by decide)]
  intro ac_ w_ hH hr
  have e3:ac_.tmps[3]?=some (.pointer (some ⟨w.heap.size,0,none⟩)):=hr 3 (by decide)
  have k0:=(hH.2 _ _ _ nC C).box.c0
  have k1:=(hH.2 _ _ _ nC C).box.c1
  exact Rg.aG rfl (by go_simp)
 ·unfold Rg.cM
  rw [if_neg (by decide),if_neg (by decide),if_neg (by decide)]
  intro ac_ w_ hH hr
  have e4:ac_.tmps[4]?=some (.pointer (some ⟨w.heap.size+1,0,none⟩)):=hr 4 (by decide)
  have k0:=(hH.2 _ _ _ nQ Q).aQ.1
  have k1:=(hH.2 _ _ _ nQ Q).aQ.2.1
  have k2:=(hH.2 _ _ _ nQ Q).aQ.2.2
  exact Rg.aG rfl (by go_simp)
 ·unfold Rg.cM
  rw [if_neg (by decide),if_neg (by decide),if_pos (by decide)]
  intro ac_ w_ K_ hH hr
  replace K_:aH w_ (w4.heap.size+1) 92 #[.bool f1]:=K_
  have e31:=Rg.ev1 (hr 31 (by decide))
  have e32:=Rg.ev1 (hr 32 (by decide))
  have e33:=Rg.ev1 (hr 33 (by decide))
  have ef:=Rg.ef ac_
  exact Rg.fz rfl (by go_simp) (PB2.out _ _ K_)
 ·unfold Rg.cM
  rw [if_neg (by decide),if_neg (by decide),if_pos (by decide)]
  intro ac_ w_ K_ hH hr
  replace K_:aH w_ (w4.heap.size+1) 92 #[.bool f3]:=K_
  have e26:=Rg.ev1 (hr 26 (by decide))
  have e30:=Rg.ev1 (hr 30 (by decide))
  have e34:=Rg.ev1 (hr 34 (by decide))
  have ef:=Rg.ef ac_
  exact Rg.fz rfl (by go_simp) (PM1.out _ _ K_)
 ·unfold Rg.cM
  rw [if_neg (by decide),if_neg (by decide),if_neg (by decide)]
  intro ac_ w_ hH hr
  have e10:ac_.tmps[10]?=some (.pointer (some ⟨w4.heap.size+1,0,none⟩)):=hr 10 (by decide)
  exact Rg.aG rfl (by go_simp)
 ·unfold Rg.cM
  rw [if_neg (by decide),if_neg (by decide),if_neg (by decide)]
  intro ac_ w_ hH hr
  have e3:ac_.tmps[3]?=some (.pointer (some ⟨w.heap.size,0,none⟩)):=hr 3 (by decide)
  have k0:=(hH.2 _ _ _ nC C).box.c0
  have k1:=(hH.2 _ _ _ nC C).box.c1
  exact Rg.aG rfl (by go_simp)
 ·unfold Rg.cM
  rw [if_neg (by decide),if_neg (by decide),if_neg (by decide)]
  intro ac_ w_ hH hr
  have e5:ac_.tmps[5]?=some (.pointer (some ⟨w.heap.size+1+1,0,none⟩)):=hr 5 (by decide)
  have k0:=(hH.2 _ _ _ nU U).aQ.1
  have k1:=(hH.2 _ _ _ nU U).aQ.2.1
  have k2:=(hH.2 _ _ _ nU U).aQ.2.2
  exact Rg.aG rfl (by go_simp)
 ·unfold Rg.cM
  rw [if_neg (by decide),if_neg (by decide),if_pos (by decide)]
  intro ac_ w_ K_ hH hr
  replace K_:aH w_ (w4.heap.size+1) 92 #[.bool f4]:=K_
  have e36:=Rg.ev1 (hr 36 (by decide))
  have e37:=Rg.ev1 (hr 37 (by decide))
  have e38:=Rg.ev1 (hr 38 (by decide))
  have ef:=Rg.ef ac_
  exact Rg.fz rfl (by go_simp) (PB3.out _ _ K_)
 ·unfold Rg.cM
  rw [if_neg (by decide),if_neg (by decide),if_pos (by decide)]
  intro ac_ w_ K_ hH hr
  replace K_:aH w_ (w4.heap.size+1) 92 #[.bool f6]:=K_
  have e25:=Rg.ev1 (hr 25 (by decide))
  have e35:=Rg.ev1 (hr 35 (by decide))
  have e39:=Rg.ev1 (hr 39 (by decide))
  have ef:=Rg.ef ac_
  exact Rg.fz rfl (by go_simp) (PM2.out _ _ K_)
 ·unfold Rg.cM
  rw [if_pos rfl]
  intro ac_ w_
  exact Rg.mU rfl (by first | (go_simp;done) | (go_simp;rfl))
 ·unfold Rg.cM
  rw [if_neg (by decide),if_pos rfl]
  intro ac_ w_ h_ hh hn hr
  have e11:ac_.tmps[11]?=some (.pointer (some ⟨h_,0,none⟩)):=hr 11 (by decide)
  have e40:=Rg.ev1 (hr 40 (by decide))
  have ⟨y0,y1,x0,x1,_⟩:=hn.box
  refine ⟨rfl,?_⟩
  unfold Oper.wp
  go_simp
  exact ⟨aH.set2 hn _ _,uj (uj (uk _ _) hh _) hh _⟩
 intro vals wz h_ hh hn v_16 hB hv
 replace hB:Below wd.heap.size (wd.setCell ⟨w4.heap.size+1,0,none⟩ (.bool f7)) wz:=hB
 simp only [Rg.am,Rg.fill,Act.put,Nat.reduceAdd]
 clear hv
 simp only [v_16]
 clear v_16
 have hB2:=cE hB
 replace B:=(uj B nB (.bool f7)).trans (hB.mono B.size)
 replace R:=(R.other (i:=0) nR (.bool f7)).keep hB2
 replace K:=(K.one (.bool f7)).keep hB2
 have k0:=K.cell 0
 have ⟨r0,r1,zf0,zf1,rl⟩:=R.box
 have ⟨z0,z1,_,_,_⟩:=hn.box
 clear hB hB2 C_c0 C_c1 q0 q1 q2 u0 u1 u2
 go_upto_region 6 with fail
 go_region
 all_goals
  go_wp2
  exact bodyPost_ret (v:=.tuple #[.agg #[.int .i64 l7,.int .i64 h7],.bool f7]) (by simp [results,Tryz.results41,go_sem, *]) rfl (⟨rfl,Below.drew (uj (uj B (by simp;omega) _) (by simp;omega) _)⟩)
def ek (w:World) (g:Nat) (l:List (Int × Int × Int)):Prop:=
 ∀ (k:Nat) (p:Int × Int × Int),l[k]?=some p→w.cell? ⟨g,k*3,none⟩=some (.int .i64 p.1)∧w.cell? ⟨g,k*3+1,none⟩=some (.int .i64 p.2.1)∧w.cell? ⟨g,k*3+2,none⟩=some (.int .i64 p.2.2)
theorem ek.below {w w':World} {g:Nat} {l:List (Int × Int × Int)} (h:ek w g l) (hb:Below w.heap.size w w'):ek w' g l:=fun k p hp=>by
 obtain ⟨h1,h2,h3⟩:=h k p hp
 exact ⟨aE hb h1,aE hb h2,aE hb h3⟩
namespace M
noncomputable def cw (a b:Int) (s:Sp) (l:List (Int × Int × Int)):Sp:=l.foldl (fun s p=>ch s (bc a b p.1 p.2.2)) s
theorem fm (a b:Int):∀ l,cw a b none l=none
 | []=>rfl
 | _ :: l=>fm a b l
theorem i7 {a b:Int} {s:Sp} {l:List (Int × Int × Int)} {k:Nat} {p:Int × Int × Int} (h:l[k]?=some p):cw a b s (l.take (k+1))=ch (cw a b s (l.take k)) (bc a b p.1 p.2.2):=by
 unfold cw
 rw [List.take_add_one,h,List.foldl_append]
 rfl
theorem i8 {a b:Int} {s:Sp} {l:List (Int × Int × Int)} {k:Nat} (h:cw a b s (l.take k)=none):cw a b s l=none:=by
 have e:cw a b s l=cw a b (cw a b s (l.take k)) (l.drop k):=by
  unfold cw
  rw [←List.foldl_append,List.take_append_drop]
 rw [e,h,fm]
end M
theorem aH.q7 {W:World} {g k:Nat} {T:TypeId} {xs:Array Value} (h:aH W g T xs) (hk:g≠k) (x y z t:Value):aH ((((W.setCell ⟨k,0,none⟩ x).setCell ⟨k,1,none⟩ y).setCell ⟨k,2,none⟩ z).setCell ⟨k,3,none⟩ t) g T xs:=(((h.other hk x).other hk y).other hk z).other hk t
theorem qX (a b:Int) (s:Int × Int) (l:List (Int × Int × Int)) (g cap:Nat) (w:World) (hg:M.good a b=true) (hs:M.aO s.1 s.2=true) (hl:ek w g l) (hn:l.length≤100) (hp:∀ p ∈ l,-10000≤p.1∧p.1≤10000∧0≤p.2.2∧p.2.2≤20) :
  Calls Tryz.prog 31 #[.agg #[.int .i64 a,.int .i64 b],.agg #[.int .i64 (M.in1 (some s)),.int .i64 (M.in2 (some s)),.int .i64 (M.in3 (some s)),.int .i64 (M.in4 (some s))],.slice (some ⟨g,0,none⟩) l.length cap] w fun e w'=>e=.returned (.tuple #[.agg #[.int .i64 (M.in1 (M.cw a b (some s) l)),.int .i64 (M.in2 (M.cw a b (some s) l)),.int .i64 (M.in3 (M.cw a b (some s) l)),.int .i64 (M.in4 (M.cw a b (some s) l))],.bool (M.cw a b (some s) l).isSome])∧Below w.heap.size w w':=by
 have hin:=M.bE hg
 have hl:=uh hl
 have hp:=uh hp
 obtain ⟨wc,hw3,C,I,R,B⟩:=oP w #[.int .i64 a,.int .i64 b] 28 #[.int .i64 (M.in1 (some s)),.int .i64 (M.in2 (some s)),.int .i64 (M.in3 (some s)),.int .i64 (M.in4 (some s))] 42 #[.int .i64 0,.int .i64 0,.int .i64 0,.int .i64 0] 42
 obtain ⟨N,hN⟩:∃ N,Hid (l.length=N):=⟨_,uh rfl⟩
 rw [hN.out] at hn ⊢
 go_enter Tryz.func31,Tryz.ntmps31
 go_wp2
 go_loopw [16] (fun vi wr=>∃ (k:Nat) (p:Int × Int),k≤N∧vi=.int .i64 k∧Hid (M.cw a b (some s) (l.take k)=some p)∧aH wr w.heap.size 28 #[.int .i64 a,.int .i64 b]∧aH wr (w.heap.size+1) 42 #[.int .i64 (M.in1 (some p)),.int .i64 (M.in2 (some p)),.int .i64 (M.in3 (some p)),.int .i64 (M.in4 (some p))]∧aH wr (w.heap.size+1+1) 42 #[.int .i64 0,.int .i64 0,.int .i64 0,.int .i64 0]∧Below w.heap.size w wr) (fun vi _=>N - (intOf vi).toNat)
 case atStart=>exact ⟨0,s,Nat.zero_le _,rfl,uh rfl,C,I,R,B⟩
 case round=>
 clear C I R B hw3
 obtain ⟨k,p,hk,rfl,hcur,C,I,R,B⟩:=hrel
 have hpo:M.okS (some p):=by
  rw [←hcur.out]
  cases k with
  | zero=>intro q hq;injection hq with hq;subst hq;exact hs
  | succ k=>
  obtain ⟨z,hz⟩:∃ z,l[k]?=some z:=⟨_,List.getElem?_eq_getElem (by have:=hN.out;omega)⟩
  rw [M.i7 hz]
  exact M.kK
 have hps:=hpo p rfl
 have C_c0:=C.box.c0
 have C_c1:=C.box.c1
 by_cases hlt:k<N
 ·obtain ⟨z,hz⟩:∃ z,l[k]?=some z:=⟨_,List.getElem?_eq_getElem (by have:=hN.out;omega)⟩
  obtain ⟨d0,d1,d2⟩:=(hl.out.below B) k z hz
  obtain ⟨b1,b2,b3,b4⟩:=hp.out z (List.mem_of_getElem? hz)
  have hnx:=M.i7 (a:=a) (b:=b) (s:=some s) hz
  rw [hcur.out] at hnx
  obtain ⟨X,Y,E⟩:=z
  simp only [] at d0 d1 d2 b1 b2 b3 b4 hnx
  have PH:=fun W=>ew a b X Y E W hg b1 b2 b3 b4
  have hto:=M.dw (a:=a) (b:=b) hin b1 b2 b3 b4
  generalize M.bc a b X E=t at *
  clear b1 b2 b3 b4 hz hcur
  replace B:=B.alloc B.size (.cells #[.int .i64 X,.int .i64 Y,.int .i64 E] 45)
  have Z:=aH.new wr #[.int .i64 X,.int .i64 Y,.int .i64 E] 45
  replace C:=C.alloc (.cells #[.int .i64 X,.int .i64 Y,.int .i64 E] 45)
  replace I:=I.alloc (.cells #[.int .i64 X,.int .i64 Y,.int .i64 E] 45)
  replace R:=R.alloc (.cells #[.int .i64 X,.int .i64 Y,.int .i64 E] 45)
  have C_c0:=C.box.c0
  have C_c1:=C.box.c1
  have ⟨z0,z1,z2⟩:=Z.aQ
  cases t with
  | none=>
   have hfin:M.cw a b (some s) l=none:=M.i8 (k:=k+1) (by rw [hnx];rfl)
   have e1:=uh (show M.in1 none=0∧M.in2 none=0∧M.in3 none=0∧M.in4 none=0∧(none:M.Sp).isSome=false from ⟨rfl,rfl,rfl,rfl,rfl⟩)
   rw [e1.out.1,e1.out.2.1,e1.out.2.2.1,e1.out.2.2.2.1,e1.out.2.2.2.2] at PH
   have hfin:=uh hfin
   clear hnx hpo hps hto
   replace PH:=uh PH
   generalize M.in1 (some p)=i1_ at *
   generalize M.in2 (some p)=i2_ at *
   generalize M.in3 (some p)=i3_ at *
   generalize M.in4 (some p)=i4_ at *
   go_wp2_with (go_at_call 30;(with_reducible refine (PH.out _).mono ?_);rintro e w4 ⟨rfl,hb4⟩;(replace B:=B.trans (hb4.mono B.size));(replace C:=C.keep hb4);(replace I:=I.keep hb4);(replace R:=R.keep hb4);(replace R:=R.alloc (.cells #[.int .i64 0,.int .i64 0,.int .i64 0,.int .i64 0] 42));(replace C:=C.alloc (.cells #[.int .i64 0,.int .i64 0,.int .i64 0,.int .i64 0] 42));(replace I:=I.alloc (.cells #[.int .i64 0,.int .i64 0,.int .i64 0,.int .i64 0] 42));(replace B:=B.alloc B.size (.cells #[.int .i64 0,.int .i64 0,.int .i64 0,.int .i64 0] 42));(have V:=aH.new w4 #[.int .i64 0,.int .i64 0,.int .i64 0,.int .i64 0] 42);(have ⟨r0,r1,r2,r3,y0,y1,y2,y3,rl⟩:=R.aR);(have ⟨i0,i1,i2,i3,s0,s1,s2,s3,il⟩:=I.aR);(have ⟨v0,v1,v2,v3,_,_,_,_,vl⟩:=V.aR))
   exact bodyPost_ret (v:=.tuple #[.agg #[.int .i64 0,.int .i64 0,.int .i64 0,.int .i64 0],.bool false]) (by simp [results,Tryz.results31,go_sem, *]) rfl (⟨by rw [hfin.out,e1.out.1,e1.out.2.1,e1.out.2.2.1,e1.out.2.2.2.1,e1.out.2.2.2.2],uj (uj (uj (uj B (by simp;omega) _) (by simp;omega) _) (by simp;omega) _) (by simp;omega) _⟩)
  | some q=>
  have PI:=fun W=>qd p q W hps (hto q rfl)
  have e2:=uh (show (some q:M.Sp).isSome=true from rfl)
  rw [e2.out] at PH
  clear e2
  generalize M.ch (some p) (some q)=u at *
  have hnx:=uh hnx
  generalize M.in1 (some q)=k1 at *
  generalize M.in2 (some q)=k2 at *
  generalize M.in3 (some q)=k3 at *
  generalize M.in4 (some q)=k4 at *
  replace PH:=uh PH
  clear hto hps hpo
  cases u with
  | none=>
   have hfin:=uh (show M.cw a b (some s) l=none from M.i8 (k:=k+1) hnx.out)
   have e1:=uh (show M.in1 none=0∧M.in2 none=0∧M.in3 none=0∧M.in4 none=0∧(none:M.Sp).isSome=false from ⟨rfl,rfl,rfl,rfl,rfl⟩)
   rw [e1.out.1,e1.out.2.1,e1.out.2.2.1,e1.out.2.2.2.1,e1.out.2.2.2.2] at PI
   replace PI:=uh PI
   clear hnx
   generalize M.in1 (some p)=i1_ at *
   generalize M.in2 (some p)=i2_ at *
   generalize M.in3 (some p)=i3_ at *
   generalize M.in4 (some p)=i4_ at *
   go_wp2_with first | (go_at_call 30;(with_reducible refine (PH.out _).mono ?_);rintro e w4 ⟨rfl,hb4⟩;(replace B:=B.trans (hb4.mono B.size));(replace C:=C.keep hb4);(replace I:=I.keep hb4);(replace R:=R.keep hb4);(replace R:=R.alloc (.cells #[.int .i64 k1,.int .i64 k2,.int .i64 k3,.int .i64 k4] 42));(replace C:=C.alloc (.cells #[.int .i64 k1,.int .i64 k2,.int .i64 k3,.int .i64 k4] 42));(replace I:=I.alloc (.cells #[.int .i64 k1,.int .i64 k2,.int .i64 k3,.int .i64 k4] 42));(replace B:=B.alloc B.size (.cells #[.int .i64 k1,.int .i64 k2,.int .i64 k3,.int .i64 k4] 42));(have V:=aH.new w4 #[.int .i64 k1,.int .i64 k2,.int .i64 k3,.int .i64 k4] 42);(have ⟨r0,r1,r2,r3,y0,y1,y2,y3,rl⟩:=R.aR);(have ⟨i0,i1,i2,i3,s0,s1,s2,s3,il⟩:=I.aR);(have ⟨v0,v1,v2,v3,_,_,_,_,vl⟩:=V.aR)) | (go_at_call 52;(with_reducible refine (PI.out _).mono ?_);rintro e w5 ⟨rfl,hb5⟩;(replace B:=B.trans (hb5.mono B.size));(replace C:=C.keep hb5);(replace I:=I.keep hb5);(replace R:=R.keep hb5);(replace R:=R.alloc (.cells #[.int .i64 0,.int .i64 0,.int .i64 0,.int .i64 0] 42));(replace C:=C.alloc (.cells #[.int .i64 0,.int .i64 0,.int .i64 0,.int .i64 0] 42));(replace I:=I.alloc (.cells #[.int .i64 0,.int .i64 0,.int .i64 0,.int .i64 0] 42));(replace B:=B.alloc B.size (.cells #[.int .i64 0,.int .i64 0,.int .i64 0,.int .i64 0] 42));(have V:=aH.new w5 #[.int .i64 0,.int .i64 0,.int .i64 0,.int .i64 0] 42);(have ⟨r0,r1,r2,r3,y0,y1,y2,y3,rl⟩:=R.aR);(have ⟨i0,i1,i2,i3,s0,s1,s2,s3,il⟩:=I.aR);(have ⟨v0,v1,v2,v3,_,_,_,_,vl⟩:=V.aR))
   exact bodyPost_ret (v:=.tuple #[.agg #[.int .i64 0,.int .i64 0,.int .i64 0,.int .i64 0],.bool false]) (by simp [results,Tryz.results31,go_sem, *]) rfl (⟨by rw [hfin.out,e1.out.1,e1.out.2.1,e1.out.2.2.1,e1.out.2.2.2.1,e1.out.2.2.2.2],uj (uj (uj (uj B (by simp;omega) _) (by simp;omega) _) (by simp;omega) _) (by simp;omega) _⟩)
  | some r=>
  have e2:=uh (show (some r:M.Sp).isSome=true from rfl)
  rw [e2.out] at PI
  clear e2
  obtain ⟨m1,hm1⟩:∃ m,Hid (M.in1 (some r)=m):=⟨_,uh rfl⟩
  rw [hm1.out] at PI
  obtain ⟨m2,hm2⟩:∃ m,Hid (M.in2 (some r)=m):=⟨_,uh rfl⟩
  rw [hm2.out] at PI
  obtain ⟨m3,hm3⟩:∃ m,Hid (M.in3 (some r)=m):=⟨_,uh rfl⟩
  rw [hm3.out] at PI
  obtain ⟨m4,hm4⟩:∃ m,Hid (M.in4 (some r)=m):=⟨_,uh rfl⟩
  rw [hm4.out] at PI
  replace PI:=uh PI
  generalize M.in1 (some p)=i1_ at *
  generalize M.in2 (some p)=i2_ at *
  generalize M.in3 (some p)=i3_ at *
  generalize M.in4 (some p)=i4_ at *
  go_wp2_with first | (go_at_call 30;(with_reducible refine (PH.out _).mono ?_);rintro e w4 ⟨rfl,hb4⟩;(replace B:=B.trans (hb4.mono B.size));(replace C:=C.keep hb4);(replace I:=I.keep hb4);(replace R:=R.keep hb4);(replace R:=R.alloc (.cells #[.int .i64 k1,.int .i64 k2,.int .i64 k3,.int .i64 k4] 42));(replace C:=C.alloc (.cells #[.int .i64 k1,.int .i64 k2,.int .i64 k3,.int .i64 k4] 42));(replace I:=I.alloc (.cells #[.int .i64 k1,.int .i64 k2,.int .i64 k3,.int .i64 k4] 42));(replace B:=B.alloc B.size (.cells #[.int .i64 k1,.int .i64 k2,.int .i64 k3,.int .i64 k4] 42));(have V:=aH.new w4 #[.int .i64 k1,.int .i64 k2,.int .i64 k3,.int .i64 k4] 42);(have ⟨r0,r1,r2,r3,y0,y1,y2,y3,rl⟩:=R.aR);(have ⟨i0,i1,i2,i3,s0,s1,s2,s3,il⟩:=I.aR);(have ⟨v0,v1,v2,v3,_,_,_,_,vl⟩:=V.aR)) | (go_at_call 52;(with_reducible refine (PI.out _).mono ?_);rintro e w5 ⟨rfl,hb5⟩;(replace B:=B.trans (hb5.mono B.size));(replace C:=C.keep hb5);(replace I:=I.keep hb5);(replace R:=R.keep hb5);(replace R:=R.alloc (.cells #[.int .i64 m1,.int .i64 m2,.int .i64 m3,.int .i64 m4] 42));(replace C:=C.alloc (.cells #[.int .i64 m1,.int .i64 m2,.int .i64 m3,.int .i64 m4] 42));(replace I:=I.alloc (.cells #[.int .i64 m1,.int .i64 m2,.int .i64 m3,.int .i64 m4] 42));(replace B:=B.alloc B.size (.cells #[.int .i64 m1,.int .i64 m2,.int .i64 m3,.int .i64 m4] 42));(have V:=aH.new w5 #[.int .i64 m1,.int .i64 m2,.int .i64 m3,.int .i64 m4] 42);(have ⟨r0,r1,r2,r3,y0,y1,y2,y3,rl⟩:=R.aR);(have ⟨i0,i1,i2,i3,s0,s1,s2,s3,il⟩:=I.aR);(have ⟨v0,v1,v2,v3,_,_,_,_,vl⟩:=V.aR))
  go_roundw
  case rel=>exact ⟨k+1,r,by omega,by simp,hnx,C.q7 (by omega) _ _ _ _,by rw [hm1.out,hm2.out,hm3.out,hm4.out];exact I.pS _ _ _ _,R.q7 (by omega) _ _ _ _,uj (uj (uj (uj B (by simp) _) (by simp) _) (by simp) _) (by simp) _⟩
  case measure=>simp [intOf] <;> omega
 obtain rfl:k=N:=by omega
 have hfin:=hcur
 have e0:l.take k=l:=by rw [←hN.out];exact List.take_length
 rw [e0] at hfin
 have ⟨i0,i1,i2,i3,s0,s1,s2,s3,il⟩:=I.aR
 have ⟨r0,r1,r2,r3,y0,y1,y2,y3,rl⟩:=R.aR
 go_wp2
 exact bodyPost_ret (v:=.tuple #[.agg #[.int .i64 (M.in1 (some p)),.int .i64 (M.in2 (some p)),.int .i64 (M.in3 (some p)),.int .i64 (M.in4 (some p))],.bool true]) (by simp [results,Tryz.results31,go_sem, *]) rfl (⟨by rw [hfin.out];rfl,uj (uj (uj (uj B (by simp;omega) _) (by simp;omega) _) (by simp;omega) _) (by simp;omega) _⟩)
theorem ek.two {W:World} {g:Nat} {T:TypeId} {X1 Y1 E1 X2 Y2 E2:Int} (h:aH W g T #[.int .i64 X1,.int .i64 Y1,.int .i64 E1,.int .i64 X2,.int .i64 Y2,.int .i64 E2]):ek W g [(X1,Y1,E1),(X2,Y2,E2)]:=by
 intro k p hp
 match k,hp with
 | 0,hp=>injection hp with hp;subst hp;exact ⟨h.cell 0,h.cell 1,h.cell 2⟩
 | 1,hp=>injection hp with hp;subst hp;exact ⟨h.cell 3,h.cell 4,h.cell 5⟩
 | k+2,hp=>cases hp
theorem lN (a b X1 Y1 E1 X2 Y2 E2:Int) (w:World) (hg:M.good a b=true) (hp:M.bR a b X1 Y1 E1=true) (hq:M.bR a b X2 Y2 E2=true) :
  Calls Tryz.prog 20 #[.agg #[.int .i64 a,.int .i64 b],.agg #[.int .i64 X1,.int .i64 Y1,.int .i64 E1],.agg #[.int .i64 X2,.int .i64 Y2,.int .i64 E2]] w fun e w'=>e=.returned (.tuple #[.agg #[.int .i64 (M.in1 (M.dP a b X1 Y1 E1 X2 Y2 E2)),.int .i64 (M.in2 (M.dP a b X1 Y1 E1 X2 Y2 E2)),.int .i64 (M.in3 (M.dP a b X1 Y1 E1 X2 Y2 E2)),.int .i64 (M.in4 (M.dP a b X1 Y1 E1 X2 Y2 E2))],.bool (M.dP a b X1 Y1 E1 X2 Y2 E2).isSome])∧Below w.heap.size w w':=by
 have PA:=fun W=>sV a b X1 Y1 E1 X2 Y2 E2 W hg hp hq
 have hin:=M.bE hg
 have hs:=M.pq hin hp hq
 obtain ⟨p1,p2,p3,p4,-,-⟩:=M.d6 hin hp
 obtain ⟨r1,r2,r3,r4,-,-⟩:=M.d6 hin hq
 obtain ⟨s1,s2,s3,s4,-,-⟩:=M.d6 hin hs
 have hv:=uh (show (M.dP a b X1 Y1 E1 X2 Y2 E2)=if M.eD a X1 Y1 E1 X2 Y2 E2=true then M.cw a b (M.bc a b (M.ff a X1 Y1 E1 X2 Y2 E2) (M.fd a X1 Y1 E1 X2 Y2 E2)) [(X1,Y1,E1),(X2,Y2,E2)] else none from rfl)
 rw [hv.out]
 clear hv hs hp hq
 generalize M.ff a X1 Y1 E1 X2 Y2 E2=X3 at *
 generalize M.gy a X1 Y1 E1 X2 Y2 E2=Y3 at *
 generalize M.fd a X1 Y1 E1 X2 Y2 E2=E3 at *
 generalize M.eD a X1 Y1 E1 X2 Y2 E2=ok at *
 have PH:=fun W=>ew a b X3 Y3 E3 W hg s1 s2 s3 s4
 have hto:=M.dw (a:=a) (b:=b) hin s1 s2 s3 s4
 have PL:=fun s g W h1 h2=>qX a b s [(X1,Y1,E1),(X2,Y2,E2)] g 2 W hg h1 h2 (by simp) (by
  intro p hp
  rcases List.mem_cons.1 hp with rfl | hp
  ·exact ⟨p1,p2,p3,p4⟩
  rcases List.mem_cons.1 hp with rfl | hp
  ·exact ⟨r1,r2,r3,r4⟩
  cases hp)
 generalize M.bc a b X3 E3=t at *
 clear hg hin s1 s2 s3 s4 p1 p2 p3 p4 r1 r2 r3 r4
 cases ok with
 | false=>
  have e1:=uh (show M.in1 none=0∧M.in2 none=0∧M.in3 none=0∧M.in4 none=0∧(none:M.Sp).isSome=false from ⟨rfl,rfl,rfl,rfl,rfl⟩)
  have e2:=uh (show (if (false=true) then M.cw a b t [(X1,Y1,E1),(X2,Y2,E2)] else none)=none from rfl)
  rw [e2.out,e1.out.1,e1.out.2.1,e1.out.2.2.1,e1.out.2.2.2.1,e1.out.2.2.2.2]
  clear e1 e2 PH PL hto
  replace PA:=uh PA
  obtain ⟨wc,hw3,C,Q,U,R,B⟩:=jt w #[.int .i64 a,.int .i64 b] 28 #[.int .i64 X1,.int .i64 Y1,.int .i64 E1] 45 #[.int .i64 X2,.int .i64 Y2,.int .i64 E2] 45 #[.int .i64 0,.int .i64 0,.int .i64 0,.int .i64 0] 42
  have C_c0:=C.box.c0
  have C_c1:=C.box.c1
  have ⟨q0,q1,q2⟩:=Q.aQ
  have ⟨u0,u1,u2⟩:=U.aQ
  go_enter Tryz.func20,Tryz.ntmps20
  go_wp2_with (go_at_call 29;(with_reducible refine (PA.out _).mono ?_);rintro e w4 ⟨rfl,hb4⟩;(replace B:=B.trans (hb4.mono B.size));(replace C:=C.keep hb4);(replace Q:=Q.keep hb4);(replace U:=U.keep hb4);(replace R:=R.keep hb4);(replace B:=B.alloc B.size (.cells #[.int .i64 X3,.int .i64 Y3,.int .i64 E3] 45));(replace C:=C.alloc (.cells #[.int .i64 X3,.int .i64 Y3,.int .i64 E3] 45));(replace Q:=Q.alloc (.cells #[.int .i64 X3,.int .i64 Y3,.int .i64 E3] 45));(replace U:=U.alloc (.cells #[.int .i64 X3,.int .i64 Y3,.int .i64 E3] 45));(replace R:=R.alloc (.cells #[.int .i64 X3,.int .i64 Y3,.int .i64 E3] 45));(have S:=aH.new w4 #[.int .i64 X3,.int .i64 Y3,.int .i64 E3] 45);(have ⟨z0,z1,z2⟩:=S.aQ);(have C_c0:=C.box.c0);(have C_c1:=C.box.c1);(have ⟨q0,q1,q2⟩:=Q.aQ);(have ⟨u0,u1,u2⟩:=U.aQ);(have ⟨r0,r1,r2,r3,y0,y1,y2,y3,rl⟩:=R.aR))
  exact bodyPost_ret (v:=.tuple #[.agg #[.int .i64 0,.int .i64 0,.int .i64 0,.int .i64 0],.bool false]) (by simp [results,Tryz.results20,go_sem, *]) rfl (⟨rfl,uj (uj (uj (uj B (by simp;omega) _) (by simp;omega) _) (by simp;omega) _) (by simp;omega) _⟩)
 | true=>
 rw [if_pos rfl]
 replace PA:=uh PA
 cases t with
 | none=>
  have e1:=uh (show M.in1 none=0∧M.in2 none=0∧M.in3 none=0∧M.in4 none=0∧(none:M.Sp).isSome=false from ⟨rfl,rfl,rfl,rfl,rfl⟩)
  rw [M.fm,e1.out.1,e1.out.2.1,e1.out.2.2.1,e1.out.2.2.2.1,e1.out.2.2.2.2]
  rw [e1.out.1,e1.out.2.1,e1.out.2.2.1,e1.out.2.2.2.1,e1.out.2.2.2.2] at PH
  clear e1 PL hto
  replace PH:=uh PH
  obtain ⟨wc,hw3,C,Q,U,R,B⟩:=jt w #[.int .i64 a,.int .i64 b] 28 #[.int .i64 X1,.int .i64 Y1,.int .i64 E1] 45 #[.int .i64 X2,.int .i64 Y2,.int .i64 E2] 45 #[.int .i64 0,.int .i64 0,.int .i64 0,.int .i64 0] 42
  have C_c0:=C.box.c0
  have C_c1:=C.box.c1
  have ⟨q0,q1,q2⟩:=Q.aQ
  have ⟨u0,u1,u2⟩:=U.aQ
  go_enter Tryz.func20,Tryz.ntmps20
  go_wp2_with first | (go_at_call 29;(with_reducible refine (PA.out _).mono ?_);rintro e w4 ⟨rfl,hb4⟩;(replace B:=B.trans (hb4.mono B.size));(replace C:=C.keep hb4);(replace Q:=Q.keep hb4);(replace U:=U.keep hb4);(replace R:=R.keep hb4);(replace B:=B.alloc B.size (.cells #[.int .i64 X3,.int .i64 Y3,.int .i64 E3] 45));(replace C:=C.alloc (.cells #[.int .i64 X3,.int .i64 Y3,.int .i64 E3] 45));(replace Q:=Q.alloc (.cells #[.int .i64 X3,.int .i64 Y3,.int .i64 E3] 45));(replace U:=U.alloc (.cells #[.int .i64 X3,.int .i64 Y3,.int .i64 E3] 45));(replace R:=R.alloc (.cells #[.int .i64 X3,.int .i64 Y3,.int .i64 E3] 45));(have S:=aH.new w4 #[.int .i64 X3,.int .i64 Y3,.int .i64 E3] 45);(have ⟨z0,z1,z2⟩:=S.aQ);(have C_c0:=C.box.c0);(have C_c1:=C.box.c1);(have ⟨q0,q1,q2⟩:=Q.aQ);(have ⟨u0,u1,u2⟩:=U.aQ);(have ⟨r0,r1,r2,r3,y0,y1,y2,y3,rl⟩:=R.aR)) | (go_at_call 30;(with_reducible refine (PH.out _).mono ?_);rintro e w5 ⟨rfl,hb5⟩;(replace B:=B.trans (hb5.mono B.size));(replace C:=C.keep hb5);(replace Q:=Q.keep hb5);(replace U:=U.keep hb5);(replace R:=R.keep hb5);(replace B:=B.alloc B.size (.cells #[.int .i64 0,.int .i64 0,.int .i64 0,.int .i64 0] 42));(replace C:=C.alloc (.cells #[.int .i64 0,.int .i64 0,.int .i64 0,.int .i64 0] 42));(replace Q:=Q.alloc (.cells #[.int .i64 0,.int .i64 0,.int .i64 0,.int .i64 0] 42));(replace U:=U.alloc (.cells #[.int .i64 0,.int .i64 0,.int .i64 0,.int .i64 0] 42));(replace R:=R.alloc (.cells #[.int .i64 0,.int .i64 0,.int .i64 0,.int .i64 0] 42));(have V:=aH.new w5 #[.int .i64 0,.int .i64 0,.int .i64 0,.int .i64 0] 42);(have ⟨v0,v1,v2,v3,_,_,_,_,vl⟩:=V.aR);(have C_c0:=C.box.c0);(have C_c1:=C.box.c1);(have ⟨q0,q1,q2⟩:=Q.aQ);(have ⟨u0,u1,u2⟩:=U.aQ);(have ⟨r0,r1,r2,r3,y0,y1,y2,y3,rl⟩:=R.aR))
  exact bodyPost_ret (v:=.tuple #[.agg #[.int .i64 0,.int .i64 0,.int .i64 0,.int .i64 0],.bool false]) (by simp [results,Tryz.results20,go_sem, *]) rfl (⟨rfl,uj (uj (uj (uj B (by simp;omega) _) (by simp;omega) _) (by simp;omega) _) (by simp;omega) _⟩)
 | some s=>
 replace PL:=fun g W h2=>PL s g W (hto s rfl) h2
 have e1:=uh (show (some s:M.Sp).isSome=true from rfl)
 rw [e1.out] at PH
 clear e1 hto
 have e2:=uh (show [(X1,Y1,E1),(X2,Y2,E2)].length=2 from rfl)
 rw [e2.out] at PL
 clear e2
 generalize M.cw a b (some s) [(X1,Y1,E1),(X2,Y2,E2)]=r at *
 generalize M.in1 (some s)=i1 at *
 generalize M.in2 (some s)=i2 at *
 generalize M.in3 (some s)=i3 at *
 generalize M.in4 (some s)=i4 at *
 generalize M.in1 r=k1 at *
 generalize M.in2 r=k2 at *
 generalize M.in3 r=k3 at *
 generalize M.in4 r=k4 at *
 generalize r.isSome=fr at *
 replace PH:=uh PH
 replace PL:=uh PL
 obtain ⟨wc,hw3,C,Q,U,R,B⟩:=jt w #[.int .i64 a,.int .i64 b] 28 #[.int .i64 X1,.int .i64 Y1,.int .i64 E1] 45 #[.int .i64 X2,.int .i64 Y2,.int .i64 E2] 45 #[.int .i64 0,.int .i64 0,.int .i64 0,.int .i64 0] 42
 have C_c0:=C.box.c0
 have C_c1:=C.box.c1
 have ⟨q0,q1,q2⟩:=Q.aQ
 have ⟨u0,u1,u2⟩:=U.aQ
 go_enter Tryz.func20,Tryz.ntmps20
 go_wp2_with first | (go_at_call 29;(with_reducible refine (PA.out _).mono ?_);rintro e w4 ⟨rfl,hb4⟩;(replace B:=B.trans (hb4.mono B.size));(replace C:=C.keep hb4);(replace Q:=Q.keep hb4);(replace U:=U.keep hb4);(replace R:=R.keep hb4);(replace B:=B.alloc B.size (.cells #[.int .i64 X3,.int .i64 Y3,.int .i64 E3] 45));(replace C:=C.alloc (.cells #[.int .i64 X3,.int .i64 Y3,.int .i64 E3] 45));(replace Q:=Q.alloc (.cells #[.int .i64 X3,.int .i64 Y3,.int .i64 E3] 45));(replace U:=U.alloc (.cells #[.int .i64 X3,.int .i64 Y3,.int .i64 E3] 45));(replace R:=R.alloc (.cells #[.int .i64 X3,.int .i64 Y3,.int .i64 E3] 45));(have S:=aH.new w4 #[.int .i64 X3,.int .i64 Y3,.int .i64 E3] 45);(have ⟨z0,z1,z2⟩:=S.aQ);(have C_c0:=C.box.c0);(have C_c1:=C.box.c1);(have ⟨q0,q1,q2⟩:=Q.aQ);(have ⟨u0,u1,u2⟩:=U.aQ);(have ⟨r0,r1,r2,r3,y0,y1,y2,y3,rl⟩:=R.aR)) | (go_at_call 30;(with_reducible refine (PH.out _).mono ?_);rintro e w5 ⟨rfl,hb5⟩;(replace B:=B.trans (hb5.mono B.size));(replace C:=C.keep hb5);(replace Q:=Q.keep hb5);(replace U:=U.keep hb5);(replace R:=R.keep hb5);(replace B:=B.alloc B.size (.cells #[.int .i64 i1,.int .i64 i2,.int .i64 i3,.int .i64 i4] 42));(replace C:=C.alloc (.cells #[.int .i64 i1,.int .i64 i2,.int .i64 i3,.int .i64 i4] 42));(replace Q:=Q.alloc (.cells #[.int .i64 i1,.int .i64 i2,.int .i64 i3,.int .i64 i4] 42));(replace U:=U.alloc (.cells #[.int .i64 i1,.int .i64 i2,.int .i64 i3,.int .i64 i4] 42));(replace R:=R.alloc (.cells #[.int .i64 i1,.int .i64 i2,.int .i64 i3,.int .i64 i4] 42));(have V:=aH.new w5 #[.int .i64 i1,.int .i64 i2,.int .i64 i3,.int .i64 i4] 42);(have ⟨v0,v1,v2,v3,_,_,_,_,vl⟩:=V.aR);(have C_c0:=C.box.c0);(have C_c1:=C.box.c1);(have ⟨q0,q1,q2⟩:=Q.aQ);(have ⟨u0,u1,u2⟩:=U.aQ);(have ⟨r0,r1,r2,r3,y0,y1,y2,y3,rl⟩:=R.aR);(replace R:=R.alloc (.cells #[.int .i64 X1,.int .i64 Y1,.int .i64 E1,.int .i64 X2,.int .i64 Y2,.int .i64 E2] 45));(have L:=aH.new (w5.alloc (.cells #[.int .i64 i1,.int .i64 i2,.int .i64 i3,.int .i64 i4] 42)) #[.int .i64 X1,.int .i64 Y1,.int .i64 E1,.int .i64 X2,.int .i64 Y2,.int .i64 E2] 45);(rw [ui] at L);(replace L:=uh (ek.two L))) | (go_at_call 31;(with_reducible refine (PL.out _ _ L.out).mono ?_);rintro e w6 ⟨rfl,hb6⟩;(replace B:=(B.alloc B.size (.cells #[.int .i64 X1,.int .i64 Y1,.int .i64 E1,.int .i64 X2,.int .i64 Y2,.int .i64 E2] 45)).trans (hb6.mono (B.alloc B.size (.cells #[.int .i64 X1,.int .i64 Y1,.int .i64 E1,.int .i64 X2,.int .i64 Y2,.int .i64 E2] 45)).size));(replace R:=R.keep hb6);(have ⟨r0,r1,r2,r3,y0,y1,y2,y3,rl⟩:=R.aR))
 exact bodyPost_ret (v:=.tuple #[.agg #[.int .i64 k1,.int .i64 k2,.int .i64 k3,.int .i64 k4],.bool fr]) (by simp [results,Tryz.results20,go_sem, *]) rfl (⟨rfl,uj (uj (uj (uj B (by simp;omega) _) (by simp;omega) _) (by simp;omega) _) (by simp;omega) _⟩)
abbrev Pt:=Int × Int × Int
def fc (W:World) (v:Value) (l:List Pt):Prop:=∃ (a:Option Addr) (cap:Nat),v=.slice a l.length cap∧(l=[]∨∃ g,a=some ⟨g,0,none⟩∧ek W g l)
theorem fc.below {w w':World} {v:Value} {l:List Pt} (h:fc w v l) (hb:Below w.heap.size w w'):fc w' v l:=by
 obtain ⟨a,cap,e,h⟩:=h
 refine ⟨a,cap,e,?_⟩
 rcases h with h | ⟨g,e,h⟩
 ·exact Or.inl h
 exact Or.inr ⟨g,e,h.below hb⟩
def pm (g:Nat) (lb:Array Value) (p:Pt→Bool) (xs:List Pt) (w:World):Prop:=
 ∀ (x:Pt) (_:x ∈ xs) (W:World),Below w.heap.size w W→Calls Tryz.prog g (#[.agg #[.int .i64 x.1,.int .i64 x.2.1,.int .i64 x.2.2]] ++ lb) W fun e W'=>e=.returned (.bool (p x))∧Below W.heap.size W W'
theorem pt {p:Pt→Bool} {xs:List Pt} {k:Nat} {x:Pt} (hx:xs[k]?=some x) (h:(xs.take k).any p=false) (h':p x=false):(xs.take (k+1)).any p=false:=by
 rw [List.take_add_one,hx,List.any_append,h]
 simpa using h'
theorem tP {p:Pt→Bool} {xs:List Pt} {k:Nat} {x:Pt} (hx:xs[k]?=some x) (h':p x=true):xs.any p=true:=
 List.any_eq_true.2 ⟨x,List.mem_of_getElem? hx,h'⟩
theorem mf (g:Nat) (lb:Array Value) (eg:∀ args w,(callFunc g args).run Tryz.prog w=.ok (.enter g args) w) (p:Pt→Bool) (v:Value) (xs:List Pt) (w:World) (hx:fc w v xs) (hn:xs.length≤4) (hp:pm g lb p xs w) :
  Calls Tryz.prog 56 #[v,.func (.func g) #[] lb] w fun e w'=>∃ r:Int,e=.returned (.int .i64 r)∧(decide (0≤r)=xs.any p∧-1≤r∧r≤4)∧Below w.heap.size w w':=by
 obtain ⟨a,cap,rfl,hv⟩:=hx
 have hv:=uh hv
 have hp:=uh hp
 obtain ⟨N,hN⟩:∃ N,Hid (xs.length=N):=⟨_,uh rfl⟩
 rw [hN.out] at hn ⊢
 go_enter Tryz.func56,Tryz.ntmps56
 go_wp2
 go_loopw [5,8] (fun _ vi wr=>∃ k:Nat,k≤N∧vi=.int .i64 k∧Hid ((xs.take k).any p=false)∧Below w.heap.size w wr) (fun _ vi _=>N - (intOf vi).toNat)
 case atStart=>exact ⟨0,by omega,rfl,uh rfl,uk _ _⟩
 case round=>
 obtain ⟨k,hk,rfl,hall,hbr⟩:=hrel
 by_cases hlt:k<N
 ·obtain ⟨x,hx⟩:∃ x,xs[k]?=some x:=⟨_,List.getElem?_eq_getElem (by have:=hN.out;omega)⟩
  obtain ⟨b,rfl,hpt⟩:∃ b,a=some ⟨b,0,none⟩∧ek w b xs:=by
   rcases hv.out with h | h
   ·rw [h] at hx;cases hx
   exact h
  obtain ⟨d0,d1,d2⟩:=(hpt.below hbr) k x hx
  have hcall:=hp.out x (List.mem_of_getElem? hx) wr hbr
  cases hq:p x
  ·rw [hq] at hcall
   have hcall:=uh hcall
   have hnx:=uh (pt hx hall.out hq)
   clear hx hq hpt
   obtain ⟨x1,x2,x3⟩:=x
   simp only [] at d0 d1 d2 hcall
   go_wp2_with (go_at_fn g;refine (hcall.out).mono ?_;rintro e w2 ⟨rfl,hb2⟩)
   go_roundw
   case rel=>exact ⟨k+1,by omega,by go_num,hnx,aS hbr hb2⟩
   case measure=>simp [intOf];omega
  rw [hq] at hcall
  have hcall:=uh hcall
  have hf:=uh (tP hx hq)
  clear hx hq hpt
  obtain ⟨x1,x2,x3⟩:=x
  simp only [] at d0 d1 d2 hcall
  go_wp2_with (go_at_fn g;refine (hcall.out).mono ?_;rintro e w2 ⟨rfl,hb2⟩)
  go_ret
  exact ⟨_,rfl,⟨by rw [hf.out];exact decide_eq_true (by omega),by omega,by omega⟩,aS hbr hb2⟩
 obtain rfl:k=N:=by omega
 have hall2:=hall
 rw [←hN.out,List.take_length] at hall2
 go_wp2
 go_ret
 exact ⟨_,rfl,⟨by rw [hall2.out];rfl,by omega,by omega⟩,hbr⟩
theorem jQ (g:Nat) (lb:Array Value) (eg:∀ args w,(callFunc g args).run Tryz.prog w=.ok (.enter g args) w) (p:Pt→Bool) (v:Value) (xs:List Pt) (w:World) (hx:fc w v xs) (hn:xs.length≤4) (hp:pm g lb p xs w) :
  Calls Tryz.prog 37 #[v,.func (.func g) #[] lb] w fun e w'=>e=.returned (.bool (xs.any p))∧Below w.heap.size w w':=by
 have P:=uh (mf g lb eg p v xs w hx hn hp)
 generalize xs.any p=t at *
 clear hx hp
 go_enter Tryz.func37,Tryz.ntmps37
 go_wp2_with (go_at_call 56;refine P.out.mono ?_;rintro e w2 ⟨r,rfl,⟨h1,h2,h3⟩,hb2⟩)
 go_ret
 exact ⟨by rw [←h1];simp,hb2⟩
theorem mV (a b X Y E:Int) (cb:Nat) (w:World) (C:aH w cb 28 #[.int .i64 a,.int .i64 b]) :
  Calls Tryz.prog 38 #[.agg #[.int .i64 X,.int .i64 Y,.int .i64 E],.pointer (some ⟨cb,0,none⟩)] w fun e w'=>e=.returned (.bool (!(M.good a b && M.bR a b X Y E)))∧Below w.heap.size w w':=by
 have PP:=uh fun W=>ov a b X Y E W
 generalize (M.good a b && M.bR a b X Y E)=t at *
 have B:=(uk w.heap.size w).alloc (ul _) (.cells #[.int .i64 X,.int .i64 Y,.int .i64 E] 45)
 have C2:=C.alloc (.cells #[.int .i64 X,.int .i64 Y,.int .i64 E] 45)
 have Q:=aH.new w #[.int .i64 X,.int .i64 Y,.int .i64 E] 45
 generalize hw3:w.alloc (.cells #[.int .i64 X,.int .i64 Y,.int .i64 E] 45)=wc at *
 have C_c0:=C2.box.c0
 have C_c1:=C2.box.c1
 have ⟨q0,q1,q2⟩:=Q.aQ
 go_enter Tryz.func38,Tryz.ntmps38
 go_wp2_with (go_at_call 39;(with_reducible refine (PP.out _).mono ?_);rintro e w4 ⟨rfl,hb4⟩)
 go_ret
 exact ⟨rfl,B.trans (hb4.mono B.size)⟩
end
end Go.Proofs.YtgfkcoablfjbcaaGreatDoor
