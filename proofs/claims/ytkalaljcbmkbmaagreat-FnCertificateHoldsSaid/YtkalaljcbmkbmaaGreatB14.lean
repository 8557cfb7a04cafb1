/-
  Joined texts: contracts and plain lemmas.
-/
import Derived.Test.YtkalaljcbmkbmaaGreatB1
import Derived.Test.YtkalaljcbmkbmaaGreatB13
import Derived.Test.YtkalaljcbmkbmaaGreatB12
import Derived.Deep.DeepCutAuto
import Derived.Test.YtkalaljcbmkbmaaGreatB10
import Derived.Deep.RegionWith
set_option linter.unusedSimpArgs false
set_option linter.unusedVariables false
set_option maxRecDepth 100000
set_option maxHeartbeats 8000000
namespace Go.Proofs.YtkalaljcbmkbmaaGreat
section
open Go Go.RowKit
namespace Rg
variable {P:Program} {Q:Exit->Act->World->Prop}
section
variable (P) (Q) (ops:Array Oper) (a0:Act) (T:List Val) (w1:World) (ka ks:Nat) (Tn:TypeId) (xs ys:Array Value)
def bS (k:Nat) (o:Oper):Prop:=
 if k=ka then ∀ (a:Act) (w:World),Region.wanted o (yielded ops a.tmps)=true/\o.wp P a w (fun a' w'=>a'=a.put o.dst (.pointer (some ⟨w.heap.size,0,none⟩))/\w'=w.alloc (.cells xs Tn)) Q
 else if k=ks then ∀ (a:Act) (w:World) (h:Nat),w1.heap.size<=h->aG w h Tn xs->(∀ t ∈ o.looksAt ops,sH ops a0 T ka ks h o a w t)->Region.wanted o (yielded ops a.tmps)=true/\o.wp P a w (fun a' w'=>(∃ v,a'=a.put o.dst v)/\aG w' h Tn ys/\Below w1.heap.size w w') Q
 else ∀ (a:Act) (w:World),Below w1.heap.size w1 w->(∀ t ∈ o.looksAt ops,kZ ops a0 T ka ks o a w t)->Does P ops Q (Ds T k) o a w
def ux:List Oper->Nat->Prop
 | [],_=>True
 | o :: os,k=>bS P Q ops a0 T w1 ka ks Tn xs ys k o/\ux os (k+1)
def Ao (l:Nat->Bool) (vals:Nat->Value) (w:World):Prop:=
 Below w1.heap.size w1 w/\(∀ i,i≠ka->i≠ks->l i=true->(Ds T i).ok (vals i) w)/\(l ka=true->∃ h,w1.heap.size<=h/\vals ka=.pointer (some ⟨h,0,none⟩)/\aG w h Tn (if l ks=true then ys else xs))
end
theorem xi {ops:Array Oper} {a0:Act} {T:List Val} {w1:World} {ka ks:Nat} {Tn:TypeId} {xs ys:Array Value}
  (hp:∀ j,j≠ka->j≠ks->(Ds T j).pure=true) (hne:ka≠ks) (hE:jP ops ka ks=true) :
  ∀ (os:List Oper) (k:Nat),(∀ i,os[i]?=ops[k+i]?)->ux P Q ops a0 T w1 ka ks Tn xs ys os k->iJ P Q .any ops (Ao T w1 ka ks Tn xs ys) a0 os k
 | [],_,_,_=>trivial
 | o :: os,k,hos,h=>by
  refine ⟨fun a w l vals hI hl hc D1 hr=>?_,xi hp hne hE os (k+1) (fun i=>by rw [show k+1+i=k+(i+1) by omega,←hos (i+1)];rfl) h.2⟩;obtain ⟨hB,hv,hn⟩:=hI;have ho:ops[k]?=some o:=(hos 0).symm;have hsz:w1.heap.size<=w.heap.size:=hB.size
  have hQ:∀ t ∈ o.looksAt ops,kZ ops a0 T ka ks o a w t:=fun t ht=>by
   have:=hr t ht;unfold rd at this;unfold kZ
   split
   ·rename_i e he
    rw [he] at this;have h2:=List.find?_some he;rw [Bool.and_eq_true] at h2
    split
    ·trivial
    split
    ·trivial
    rename_i n1 n2
    exact ⟨_,this,hv _ n1 n2 (D1 e (Array.mem_toList_iff.1 (List.mem_of_find?_eq_some he)) h2.1)⟩
   rename_i he
   rw [he] at this;exact this
  have hko:∀ j,j≠k->upd l k j=l j:=fun j hj=>if_neg hj
  have hkk:upd l k k=true:=if_pos rfl;have h1:=h.1;unfold bS at h1;unfold mK
  by_cases e1:k=ka
  ·rw [if_pos e1] at h1
   obtain ⟨hw,hwp⟩:=h1 a w;rw [if_pos hw];refine Oper.wp_mono ?_ hwp;rintro a' w' ⟨rfl,rfl⟩;subst e1
   have hls:l ks=false:=by
    cases q:l ks
    ·rfl
    rw [dM hc hE q] at hl;cases hl
   refine ⟨_,rfl,?_,?_,fun _=>⟨w.heap.size,hsz,if_pos rfl,?_⟩⟩
   ·exact hB.alloc hsz _
   ·intro i n1 n2 hi
    rw [hko i n1] at hi;have:dT vals k (.pointer (some ⟨w.heap.size,0,none⟩)) i=vals i:=if_neg n1;rw [this];exact Val.dm (hp i n1 n2) (hv i n1 n2 hi)
   rw [hko ks (fun e=>hne e.symm),hls];exact aG.new w xs Tn
  rw [if_neg e1] at h1
  by_cases e2:k=ks
  ·rw [if_pos e2] at h1
   subst e2;obtain ⟨hh,GX,F_,hh3⟩:=hn (fY ho D1 hE);rw [hl] at hh3
   obtain ⟨hw,hwp⟩:=h1 a w hh GX hh3 (fun t ht=>by
    have:=hr t ht;unfold rd at this;unfold sH
    split
    ·rename_i e he
     rw [he] at this;have h2:=List.find?_some he;rw [Bool.and_eq_true] at h2
     split
     ·rename_i q
      replace this:a.tmps[t]?=some (vals e.on):=this;rw [q,F_] at this;exact this
     split
     ·trivial
     rename_i n1 n2
     exact ⟨_,this,hv _ n1 n2 (D1 e (Array.mem_toList_iff.1 (List.mem_of_find?_eq_some he)) h2.1)⟩
    rename_i he
    rw [he] at this
    exact this)
   rw [if_pos hw];refine Oper.wp_mono ?_ hwp;rintro a' w' ⟨⟨v,e⟩,h2,h3⟩;refine ⟨v,e,?_,?_,fun _=>⟨hh,GX,?_,?_⟩⟩
   ·exact hB.trans h3
   ·intro i n1 n2 hi
    rw [hko i n2] at hi;have:dT vals k v i=vals i:=if_neg n2;rw [this];exact Val.dm (hp i n1 n2) (hv i n1 n2 hi)
   ·have:dT vals k v ka=vals ka:=if_neg hne
    rw [this];exact F_
   rw [hkk];exact h2
  rw [if_neg e2] at h1
  have rest:∀ (v:Value) (w':World),(Ds T k).ok v w'->Below w.heap.size w w'->Ao T w1 ka ks Tn xs ys (upd l k) (dT vals k v) w':=by
   intro v w' h2 h3;refine ⟨hB.trans (h3.mono hsz),?_,?_⟩
   ·intro i n1 n2 hi
    by_cases hik:i=k
    ·subst hik
     have:dT vals i v i=v:=if_pos rfl;rw [this];exact h2
    rw [hko i hik] at hi;have:dT vals k v i=vals i:=if_neg hik;rw [this];exact Val.dm (hp i n1 n2) (hv i n1 n2 hi)
   intro hi;rw [hko ka (fun e=>e1 e.symm)] at hi;obtain ⟨hh,GX,F_,hh3⟩:=hn hi;refine ⟨hh,GX,?_,?_⟩
   ·have:dT vals k v ka=vals ka:=if_neg (fun e=>e1 e.symm)
    rw [this];exact F_
   rw [hko ks (fun e=>e2 e.symm)];exact hh3.keep h3
  have hd:=h1 a w hB hQ;unfold Does at hd
  split
  ·rename_i hw
   rw [if_pos hw] at hd;refine Oper.wp_mono ?_ hd;rintro a' w' ⟨v,e,h2,h3⟩;exact ⟨v,e,rest v w' h2 h3⟩
  rename_i hw
  rw [if_neg hw] at hd;exact rest undef w hd (DE _ _)
theorem Ak {id:Nat} {ops:Array Oper} {a0:Act} {w:World} (ka ks:Nat) (Tn:TypeId) (xs ys:Array Value) (T:List Val)
  (hm:P.follows .mixedOrders=true) (hok:fC .any ops a0.tmps.size=true) (hC:(jP ops ka ks && decide (ka<ops.size) && decide (ks<ops.size))=true)
  (hp:∀ j,j≠ka->j≠ks->(Ds T j).pure=true) (hne:ka≠ks)
  (hR:ux P Q ops a0 T w ka ks Tn xs ys ops.toList 0)
  (hF:∀ (vals:Nat->Value) (w':World) (h:Nat),w.heap.size<=h->aG w' h Tn ys->vals ka=.pointer (some ⟨h,0,none⟩)->Below w.heap.size w w'->(∀ i,i<ops.size->i≠ka->i≠ks->(Ds T i).ok (vals i) w')->Q .normal (fill (fun _=>true) vals ops.toList 0 a0) w'):(Code.region id ops true).wp P Q a0 w:=by
 rw [Bool.and_eq_true,Bool.and_eq_true,decide_eq_true_eq,decide_eq_true_eq] at hC;obtain ⟨⟨hE,ha⟩,hs⟩:=hC;refine kR (Ao T w ka ks Tn xs ys) hm hok (fun vals=>⟨?_,(fun _ _ _ h=>absurd h (by simp)),(fun h=>absurd h (by simp))⟩) (xi hp hne hE ops.toList 0 (fun i=>by rw [Nat.zero_add];exact Array.getElem?_toList) hR) ?_
 ·exact (DE _ w).drew
 intro l vals w' hl hI;obtain ⟨h1,h2,h3⟩:=hI;obtain ⟨h,q1,q2,q3⟩:=h3 (hl ka ha);rw [hl ks hs,if_pos rfl] at q3;exact hF vals w' h q1 q3 q2 h1 (fun i hi n1 n2=>h2 i n1 n2 (hl i hi))
end Rg
namespace Rg
variable {P:Program} {Q:Exit->Act->World->Prop}
section
variable (P) (Q) (ops:Array Oper) (a0:Act) (T:List Value) (J:Nat->(Nat->Value)->World->Prop) (C:List Nat)
def r9 (o:Oper) (a:Act) (vals:Nat->Value) (t:Nat):Prop:=
 match o.after.toList.find? (fun e=>Region.binds .any e && ((ops[e.on]?).bind (·.dst)) == some t) with
 | some e=>if e.on ∈ C then a.tmps[t]?=some (vals e.on) else a.tmps[t]?=some (T.getD e.on undef)
 | none=>a.tmps[t]?=a0.tmps[t]?
def bM (k:Nat) (o:Oper):Prop:=
 if k ∈ C then ∀ (a:Act) (w:World) (vals:Nat->Value),J (C.idxOf k) vals w->(∀ t ∈ o.looksAt ops,r9 ops a0 T C o a vals t)->Region.wanted o (yielded ops a.tmps)=true/\o.wp P a w (fun a' w'=>∃ v,a'=a.put o.dst v/\J (C.idxOf k+1) (dT vals k v) w') Q
 else ∀ (a:Act) (w:World) (n:Nat) (vals:Nat->Value),(n<=C.length/\(∀ c,c ∈ C->jP ops k c=true->n<=C.idxOf c)/\∀ c,c ∈ C->jP ops c k=true->C.idxOf c<n)->J n vals w->(∀ t ∈ o.looksAt ops,r9 ops a0 T C o a vals t)->Region.wanted o (yielded ops a.tmps)=true/\(execOp a.eval o).run P w=.ok (.value (T.getD k undef)) w
def uv:List Oper->Nat->Prop
 | [],_=>True
 | o :: os,k=>bM P Q ops a0 T J C k o/\uv os (k+1)
def CH (l:Nat->Bool) (vals:Nat->Value) (w:World):Prop:=
 J (cnt l C) vals w/\∀ i,i ∉ C->l i=true->vals i=T.getD i undef
end
theorem kv {l:Nat->Bool} {c:Nat} (hl:l c=false):∀ C:List Nat,c ∈ C->cnt l C<=C.idxOf c
 | [],h=>by cases h
 | d :: cs,h=>by
  by_cases hd:d=c
  ·subst hd
   unfold cnt;rw [hl];simp
  have hm:c ∈ cs:=by
   rcases List.mem_cons.1 h with e | e
   ·exact absurd e.symm hd
   exact e
  have:=kv hl cs hm
  have e2:(d == c)=false:=by rw [beq_eq_false_iff_ne];exact hd
  rw [List.idxOf_cons,e2];unfold cnt
  split
  ·simp only [cond_false];omega
  omega
theorem vW {ops:Array Oper} {l:Nat->Bool} {c:Nat} (hc:kW .any ops l) (hl:l c=true):∀ C:List Nat,dW ops C=true->c ∈ C->C.idxOf c<cnt l C
 | [],_,h=>by cases h
 | [d],_,h=>by
  rcases List.mem_cons.1 h with rfl | h
  ·unfold cnt;rw [hl];simp [cnt]
  cases h
 | d :: e :: cs,ho,h=>by
  unfold dW at ho;rw [Bool.and_eq_true,Bool.and_eq_true,decide_eq_true_eq] at ho;obtain ⟨⟨he,-⟩,ho⟩:=ho
  by_cases hd:d=c
  ·subst hd
   unfold cnt;rw [hl];simp
  have hm:c ∈ e :: cs:=by
   rcases List.mem_cons.1 h with q | q
   ·exact absurd q.symm hd
   exact q
  have ih:=vW hc hl (e :: cs) ho hm
  have hle:l e=true:=by
   cases q:l e
   ·exfalso
    have z:cnt l (e :: cs)=0:=by unfold cnt;rw [q];rfl
    omega
   rfl
  have hld:=dM hc he hle
  have e2:(d == c)=false:=by rw [beq_eq_false_iff_ne];exact hd
  rw [List.idxOf_cons,e2]
  have:cnt l (d :: e :: cs)=cnt l (e :: cs)+1:=by rw [cnt];rw [if_pos hld]
  rw [this];simp only [cond_false];omega
theorem xg {ops:Array Oper} {a0:Act} {T:List Value} {J:Nat->(Nat->Value)->World->Prop} {C:List Nat} (hC:dW ops C=true) (hJ:∀ n v v' w,(∀ i ∈ C,v i=v' i)->J n v w->J n v' w) :
  ∀ (os:List Oper) (k:Nat),(∀ i,os[i]?=ops[k+i]?)->uv P Q ops a0 T J C os k->iJ P Q .any ops (CH T J C) a0 os k
 | [],_,_,_=>trivial
 | o :: os,k,hos,h=>by
  refine ⟨fun a w l vals hI hl hc D1 hr=>?_,xg hC hJ os (k+1) (fun i=>by rw [show k+1+i=k+(i+1) by omega,←hos (i+1)];rfl) h.2⟩;obtain ⟨hB,hv⟩:=hI;have ho:ops[k]?=some o:=(hos 0).symm
  have hQ:∀ t ∈ o.looksAt ops,r9 ops a0 T C o a vals t:=fun t ht=>by
   have:=hr t ht;unfold rd at this;unfold r9
   split
   ·rename_i e he
    rw [he] at this;have h2:=List.find?_some he;rw [Bool.and_eq_true] at h2;replace this:a.tmps[t]?=some (vals e.on):=this
    split
    ·exact this
    rename_i n1
    rw [this,hv _ n1 (D1 e (Array.mem_toList_iff.1 (List.mem_of_find?_eq_some he)) h2.1)]
   rename_i he
   rw [he] at this;exact this
  have hko:∀ j,j≠k->upd l k j=l j:=fun j hj=>if_neg hj
  have h1:=h.1;unfold bM at h1;unfold mK
  have rest:∀ v,(k ∉ C->v=T.getD k undef)->∀ i,i ∉ C->upd l k i=true->dT vals k v i=T.getD i undef:=fun v hvk i n1 hi=>by
   by_cases hik:i=k
   ·subst hik
    have:dT vals i v i=v:=if_pos rfl;rw [this];exact hvk n1
   rw [hko i hik] at hi;have:dT vals k v i=vals i:=if_neg hik;rw [this];exact hv i n1 hi
  by_cases e3:k ∈ C
  ·rw [if_pos e3] at h1
   obtain ⟨q1,q2⟩:=ir hc hl (fun c hcd=>fY ho D1 hcd) C hC e3;rw [q1] at hB;obtain ⟨hw,hwp⟩:=h1 a w vals hB hQ;rw [if_pos hw];refine Oper.wp_mono ?_ hwp;rintro a' w' ⟨v,e,h2⟩;exact ⟨v,e,by rw [q2];exact h2,rest v (fun h=>absurd e3 h)⟩
  rw [if_neg e3] at h1
  have hup:∀ c,c ∈ C->jP ops k c=true->cnt l C<=C.idxOf c:=fun c hcm he=>by
   have hlc:l c=false:=by
    cases q:l c
    ·rfl
    rw [dM hc he q] at hl;cases hl
   exact kv hlc C hcm
  obtain ⟨hw,hwp⟩:=h1 a w _ vals ⟨rE C,hup,fun c hcm he=>vW hc (fY ho D1 he) C hC hcm⟩ hB hQ;rw [if_pos hw];unfold Oper.wp;rw [hwp];refine ⟨_,rfl,?_,rest _ (fun _=>rfl)⟩;rw [f5 C e3];refine hJ _ _ _ _ (fun i hi=>?_) hB
  have:i≠k:=fun e=>e3 (by rw [←e];exact hi)
  exact (if_neg this).symm
theorem Ai {id:Nat} {ops:Array Oper} {a0:Act} {w:World} (J:Nat->(Nat->Value)->World->Prop) (C:List Nat) (T:List Value)
  (hm:P.follows .mixedOrders=true) (hok:fC .any ops a0.tmps.size=true) (hC:dW ops C=true) (hcl:∀ c ∈ C,c<ops.size) (hJ:∀ n v v' w,(∀ i ∈ C,v i=v' i)->J n v w->J n v' w)
  (h0:∀ vals,J 0 vals { w with drawn:=w.drawn+1 })
  (hR:uv P Q ops a0 T J C ops.toList 0)
  (hF:∀ (vals:Nat->Value) (w':World),J C.length vals w'->(∀ i,i<ops.size->i ∉ C->vals i=T.getD i undef)->Q .normal (fill (fun _=>true) vals ops.toList 0 a0) w'):(Code.region id ops true).wp P Q a0 w:=by
 have c0:∀ C:List Nat,cnt (fun _=>false) C=0:=fun C=>by cases C <;> rfl
 have cl:∀ (l:Nat->Bool) (C:List Nat),(∀ c ∈ C,l c=true)->cnt l C=C.length:=fun l C=>by
  induction C with
  | nil=>intro _;rfl
  | cons c cs ih=>
  intro h;unfold cnt;rw [if_pos (h c (List.mem_cons_self ..)),ih (fun x hx=>h x (List.mem_cons_of_mem _ hx))];rfl
 refine kR (CH T J C) hm hok (fun vals=>⟨?_,(fun _ _ h=>absurd h (by simp))⟩) (xg hC hJ ops.toList 0 (fun i=>by rw [Nat.zero_add];exact Array.getElem?_toList) hR) ?_
 ·rw [c0]
  exact h0 vals
 intro l vals w' hl hI;obtain ⟨h1,h2⟩:=hI;rw [cl l C (fun c hc=>hl c (hcl c hc))] at h1;exact hF vals w' h1 (fun i hi n1=>h2 i n1 (hl i hi))
theorem ri {o:Oper} {a:Act} {w w2:World} {x:Value} {K:Value->World->Prop} (h:(execOp a.eval o).run P w=.ok (.value x) w2) (hK:K x w2):o.wp P a w (fun a' w'=>∃ v,a'=a.put o.dst v/\K v w') Q:=by
 unfold Oper.wp;rw [h];exact ⟨x,rfl,hK⟩
theorem zB {o:Oper} {a:Act} {w:World} {ob:Obj} {x:Value} {K:Value->World->Prop} (h:(execOp a.eval o).run P w=.ok (.value x) (w.alloc ob)) (hK:K x (w.alloc ob)):o.wp P a w (fun a' w'=>∃ v,a'=a.put o.dst v/\K v w') Q:=ri h hK
theorem CT {o:Oper} {a:Act} {w:World} {f:FuncId} {args:Array Value} {K:Value->World->Prop} (h:(execOp a.eval o).run P w=.ok (.enter f args) w) (hc:Calls P f args w fun e w'=>∃ v,e=.returned v/\K v w'):o.wp P a w (fun a' w'=>∃ v,a'=a.put o.dst v/\K v w') Q:=by
 unfold Oper.wp;rw [h];refine Calls.mono hc ?_;rintro e w' ⟨v,rfl,h1⟩;exact ⟨v,rfl,h1⟩
theorem kE {o:Oper} {a:Act} {w w2:World} {s x:Operand} {ts:TypeId} {v u v2:Value} (ho:o.op=.call { callee:=.builtin .append,args:=#[s,x],argTypes:=#[ts,ts] }) (hs:a.eval s=v) (hx:a.eval x=u) (h:(Builtin.append_ #[ts,ts] o.type #[v,u]).run P w=.ok v2 w2):(execOp a.eval o).run P w=.ok (.value v2) w2:=by
 unfold execOp;simp only [ho,resolve,invoke,builtin,Sem.run_bind,Sem.run_pure,Result.andThen_ok,List.map_toArray,List.map_cons,List.map_nil,hs,hx,h]
theorem pW (w:World) (xs:Array Value) (T:TypeId) (i:Nat) (u:Value) (h:xs[i]?=some u):(w.alloc (.cells xs T)).cell? ⟨w.heap.size,i,none⟩=some u:=by
 rw [World.cell?_alloc_at _ _ _ _ rfl];exact h
end Rg
end
section
open Go.RowKit
def DrR (X:List Nat) (W W':World):Prop:=∃ r ∈ X,W.grownBy W' (some r)
def uu (X:List Nat) (m:Nat) (u:Value) (W:World):Prop:=
 ∃ (b:Nat) (l:List Int),u=.slice (some ⟨b,0,none⟩) m m/\l.length=m/\b ∉ X/\∀ (j:Nat) (x:Int),l[j]?=some x->W.cell? ⟨b,j,none⟩=some (.int .i64 x)
theorem uu.keep {X:List Nat} {m:Nat} {u:Value} {W W':World} (h:uu X m u W) (hR:DrR X W W'):uu X m u W':=by
 obtain ⟨b,l,e,hl,h1,hc⟩:=h;obtain ⟨r,hr,hg⟩:=hR;exact ⟨b,l,e,hl,h1,fun j x hj=>Gr.iM hg (hc j x hj) fun h=>h1 (h ▸ hr)⟩
theorem uu.new {X:List Nat} (W:World) (T:TypeId) (l:List Int) {m:Nat} (hm:l.length=m) (h1:∀ x ∈ X,x<W.heap.size):uu X m (.slice (some ⟨W.heap.size,0,none⟩) m m) (W.alloc (.cells (l.map (Value.int .i64)).toArray T)):=
 ⟨W.heap.size,l,rfl,hm,fun h=>by have:=h1 _ h;omega,uK W T l⟩
theorem St.drew {w W:World} {g B n K:Nat} {v:Value} (h:St w W g B v n K):St w { W with drawn:=W.drawn+1 } g B v n K:=h.keep ((DE W.heap.size W).drew)
namespace M
abbrev Dy:=Int × Int × Int
noncomputable def EG (a X Y E:Int):Nat->Option Dy
 | 0=>some (0,0,0)
 | n+1=>(EG a X Y E n).bind fun p=>if cX a p.1 p.2.1 p.2.2 X Y E=true then some (dV a p.1 p.2.1 p.2.2 X Y E,fH a p.1 p.2.1 p.2.2 X Y E,dU a p.1 p.2.1 p.2.2 X Y E) else none
def pX (r:Option Dy):Int:=(r.getD (0,0,0)).1
def pY (r:Option Dy):Int:=(r.getD (0,0,0)).2.1
def pE (r:Option Dy):Int:=(r.getD (0,0,0)).2.2
theorem iE (a b:Int):aY a b 0 0 0=true:=by
 unfold aY;simp
theorem gq {a b X Y E:Int} (hg:good a b=true) (hp:aY a b X Y E=true):∀ n p,EG a X Y E n=some p->aY a b p.1 p.2.1 p.2.2=true
 | 0,p,h=>by
  cases h
  exact iE a b
 | n+1,p,h=>by
  unfold EG at h
  cases hq:EG a X Y E n with
  | none=>rw [hq] at h;cases h
  | some q=>
  rw [hq] at h;have hq2:=gq hg hp n q hq;simp only [Option.bind_some] at h
  split at h
  ·cases h
   exact jL (aj hg) hq2 hp
  cases h
theorem jI {a X Y E:Int} {n:Nat} {p:Dy} (h:EG a X Y E n=some p):EG a X Y E (n+1)=if cX a p.1 p.2.1 p.2.2 X Y E=true then some (dV a p.1 p.2.1 p.2.2 X Y E,fH a p.1 p.2.1 p.2.2 X Y E,dU a p.1 p.2.1 p.2.2 X Y E) else none:=by
 conv=>lhs;unfold EG
 rw [h];rfl
theorem lk {a X Y E:Int} {n:Nat} (h:EG a X Y E n=none):∀ k,n<=k->EG a X Y E k=none
 | 0,hk=>by
  obtain rfl:n=0:=by omega
  exact h
 | k+1,hk=>by
  by_cases e:n=k+1
  ·rw [←e];exact h
  conv=>lhs;unfold EG
  rw [lk h k (by omega)];rfl
def J5 (n Y:Int):Int:=if n<0 then -Y else Y
noncomputable def rq (a X Y E n:Int):Option Dy:=EG a X (J5 n Y) E n.natAbs
end M
def KT (w:World) (base:Nat) (A:Option Addr) (l:List M.Dy):Prop:=
 ∀ (k:Nat) (p:M.Dy),l[k]?=some p->∃ g,A=some ⟨g,0,none⟩/\base<=g/\w.cell? ⟨g,k*3,none⟩=some (.int .i64 p.1)/\w.cell? ⟨g,k*3+1,none⟩=some (.int .i64 p.2.1)/\w.cell? ⟨g,k*3+2,none⟩=some (.int .i64 p.2.2)
theorem KT.nil (w:World) (base:Nat):KT w base none []:=fun k p h=>by simp at h
theorem KT.below {w w':World} {base:Nat} {A:Option Addr} {l:List M.Dy} (h:KT w base A l) (hb:Below w.heap.size w w'):KT w' base A l:=fun k p hp=>by
 obtain ⟨g,h1,h2,h3,h4,h5⟩:=h k p hp;exact ⟨g,h1,h2,aE hb h3,aE hb h4,aE hb h5⟩
theorem aG.ww {W W':World} {g r:Nat} {T:TypeId} {xs:Array Value} (h:aG W g T xs) (hg:W.grownBy W' (some r)) (hn:g≠r):aG W' g T xs:=(hg.block g h.lt (by simpa using hn)).trans h
theorem St.up {w W:World} {g B n K K':Nat} {v:Value} (h:St w W g B v n K) (hK:K<=K'):St w W g B v n K':=⟨h.cur.mono hK,h.gr,h.lt⟩
def GI (wr:World) (g B:Nat) (v:Value) (n K:Nat) (W:World):Prop:=fw W g B v n K/\wr.grownBy W (some g)
theorem GI.keep {wr W W':World} {g B n K:Nat} {v:Value} (h:GI wr g B v n K W) (hb:Below W.heap.size W W'):GI wr g B v n K W':=⟨h.1.keep hb,dw h.2 (bw hb _)⟩
theorem GI.call {wr W W':World} {g B n K K':Nat} {v:Value} (h:GI wr g B v n K W) (hc:fw W' g B v n K') (hg:W.grownBy W' (some g)):GI wr g B v n K' W':=⟨hc,dw h.2 hg⟩
theorem GI.put {wr W:World} {g B n K h:Nat} {v:Value} (q:GI wr g B v n K W) (hg:g≠h) (hB:B<=h) (hw:wr.heap.size<=h) (o:Nat) (x:Value):GI wr g B v n K (W.setCell ⟨h,o,none⟩ x):=
 ⟨q.1.keepR (Gr.set (fa W (some h)) o x) hg hB,Gr.rj q.2 hw _⟩
theorem GI.start {w wr:World} {g B n K:Nat} {v:Value} (st:St w wr g B v n K):GI wr g B v n K wr.drew:=⟨st.drew.cur,qE (fa wr _) 1⟩
structure Mo (w:World) (g B:Nat) (v:Value) (n K r1 r2:Nat) (L:List (Nat × TypeId × Array Value)) (T1 T2:TypeId) (xs ys:Array Value) (W:World):Prop where
 rd:GI w g B v n K W
 hV:∀ x ∈ L,aG W x.1 x.2.1 x.2.2
 R:aG W r1 T1 xs
 Q:aG W r2 T2 ys
 hn:w.heap.size<=r1/\r1<r2/\g≠r1/\g≠r2/\B<=r1
 hL:∀ x ∈ L,r2<x.1
theorem Mo.drew {w W:World} {g B n K r1 r2:Nat} {v:Value} {L:List (Nat × TypeId × Array Value)} {T1 T2:TypeId} {xs ys:Array Value} (h:Mo w g B v n K r1 r2 L T1 T2 xs ys W):Mo w g B v n K r1 r2 L T1 T2 xs ys W.drew:=
 ⟨h.rd.keep (DE _ _).drew,h.hV,h.R,h.Q,h.hn,h.hL⟩
theorem GI.below {w W:World} {g B n K:Nat} {v:Value} (h:GI w g B v n K W) (hg:w.heap.size<=g):Below w.heap.size w W:=ck h.2 (DF _) fun k hk=>by cases hk;exact hg
namespace M
noncomputable def mF (a X Y E:Int):Nat->Nat->Option Nat
 | 0,_=>none
 | f+1,n=>match EG a X Y E n with
  | none=>none
  | some p=>if p.2.2=0 then some n else mF a X Y E f (n+1)
noncomputable def fJ (a X Y E:Int):Option Nat:=mF a X Y E 12 1
theorem mh {a X Y E:Int} {f n:Nat} (h:EG a X Y E n=none):mF a X Y E (f+1) n=none:=by
 unfold mF;rw [h]
theorem jb {a X Y E:Int} {f n:Nat} {p:Dy} (h:EG a X Y E n=some p):mF a X Y E (f+1) n=if p.2.2=0 then some n else mF a X Y E f (n+1):=by
 conv=>lhs;unfold mF
 rw [h]
end M
theorem gZ (a b X Y E:Int) (w:World) (hg:M.good a b=true) (hp:M.aY a b X Y E=true) :
  Calls Tryz.prog 59 #[.agg #[a,b],.agg #[X,Y,E]] w fun e w'=>e=.returned (.tuple #[.int .i64 ((M.fJ a X Y E).getD 0:Nat),.bool (M.fJ a X Y E).isSome])/\Below w.heap.size w w':=by
 have PA:=fun (p:M.Dy) (h:M.aY a b p.1 p.2.1 p.2.2=true) W=>fM a b p.1 p.2.1 p.2.2 X Y E W hg h hp
 have HT:=M.gq hg hp;unfold M.fJ
 obtain ⟨res,hres⟩:∃ r,M.mF a X Y E 12 1=r:=⟨_,rfl⟩
 rw [hres];replace hres:=DB hres;replace PA:=DB PA;replace HT:=DB HT
 have hno:=DB fun (f n:Nat) (h:M.EG a X Y E n=none)=>M.mh (f:=f) h
 have hyes:=DB fun (f n:Nat) (p:M.Dy) (h:M.EG a X Y E n=some p)=>M.jb (f:=f) h
 have hnext:=DB fun (n:Nat) (p:M.Dy) (h:M.EG a X Y E n=some p)=>M.jI h
 clear hg hp;obtain ⟨wc,hw3,C,Q,B⟩:=fR w #[a,b] 25 #[X,Y,E] 40;have O:=aG.new wc #[(0:Int),(0:Int),(0:Int)] 40;have Q0:=B.size;have hQl:=Q.lt;replace B:=B.alloc Q0 (.cells #[(0:Int),(0:Int),(0:Int)] 40);replace C:=C.alloc (.cells #[(0:Int),(0:Int),(0:Int)] 40);replace Q:=Q.alloc (.cells #[(0:Int),(0:Int),(0:Int)] 40);go_enter Tryz.func59,Tryz.ntmps59
 go_wp2;generalize wc.heap.size=ko at *
 go_loopw [7] (fun vi wq=>∃ (j:Nat) (p:M.Dy),1<=j/\j<=13/\vi=.int .i64 j/\Hid (M.EG a X Y E (j - 1)=some p)/\Hid (M.mF a X Y E (13 - j) j=res)/\Below w.heap.size w wq/\aG wq ko 40 #[p.1,p.2.1,p.2.2]/\aG wq w.heap.size 25 #[a,b]/\aG wq (w.heap.size+1) 40 #[X,Y,E]) (fun vi _=>13 - (intOf vi).toNat)
 case atStart=>exact ⟨1,(0,0,0),by omega,by omega,rfl,DB rfl,hres,B,O,C,Q⟩
 case round=>
 clear B O C Q hres;obtain ⟨j,⟨px,py,pe⟩,hj1,hj,rfl,ht,hres,B,O,C,Q⟩:=hrel
 by_cases hlt:j<=12
 ·obtain ⟨m,hm⟩:∃ m,13 - j=m+1:=⟨12 - j,by omega⟩
  have hm2:13 - (j+1)=m:=by omega
  rw [hm] at hres;have hnx:=hnext.out _ _ ht.out;rw [show j - 1+1=j from by omega] at hnx;replace PA:=PA.out _ (HT.out _ _ ht.out);replace hno:=hno.out m j;replace hyes:=hyes.out m j
  have hj2:j+1 - 1=j:=by omega
  dsimp only at hnx PA O
  generalize M.cX a px py pe X Y E=o3,M.dU a px py pe X Y E=E3,M.fH a px py pe X Y E=Y3,M.dV a px py pe X Y E=X3 at *;have ⟨c0,c1,_,_,_⟩:=C.box;have ⟨q0,q1,q2⟩:=Q.aO;have ⟨o0,o1,o2⟩:=O.aO;replace PA:=DB PA;clear ht hnext
  cases o3 with
  | false=>
   obtain rfl:=hres.out.symm.trans (hno (hnx.trans (if_neg (by decide))));clear hno hyes hres hnx
   go_wp2_with (go_at_call 50;(with_reducible refine (PA.out _).mono ?_);rintro e w4 ⟨rfl,hb4⟩;have D7:=(d_ B hb4).size;replace B:=(d_ B hb4).alloc D7 (.cells #[X3,Y3,E3] 40))
   go_ret2;exact ⟨rfl,B⟩
  | true=>
  replace hnx:=hnx.trans (if_pos rfl);have hst:=hres.out.symm.trans (hyes _ hnx)
  dsimp only at hst
  replace hnx:=DB hnx;clear hno hyes hres
  by_cases he:E3=0
  ·obtain rfl:=hst.trans (if_pos he)
   clear hst hm hm2;subst he
   go_wp2_with (go_at_call 50;(with_reducible refine (PA.out _).mono ?_);rintro e w4 ⟨rfl,hb4⟩;have D7:=(d_ B hb4).size;replace B:=(d_ B hb4).alloc D7 (.cells #[X3,Y3,(0:Int)] 40);have V:=aG.new w4 #[X3,Y3,(0:Int)] 40;(have ⟨v0,v1,v2⟩:=V.aO))
   go_ret2;exact ⟨rfl,B⟩
  have hres:=DB (hst.trans (if_neg he)).symm;rw [←hm2] at hres;rw [←hj2] at hnx;clear hst hm hm2 hj2
  have heb:(E3 == 0)=false:=by simpa using he
  have hol:=O.lt
  go_wp2_with (go_at_call 50;(with_reducible refine (PA.out _).mono ?_);rintro e w4 ⟨rfl,hb4⟩;have D7:=(d_ B hb4).size;replace B:=(d_ B hb4).alloc D7 (.cells #[X3,Y3,E3] 40);replace C:=(C.keep hb4).alloc (.cells #[X3,Y3,E3] 40);replace Q:=(Q.keep hb4).alloc (.cells #[X3,Y3,E3] 40);replace O:=(O.keep hb4).alloc (.cells #[X3,Y3,E3] 40);have V:=aG.new w4 #[X3,Y3,E3] 40;(have ⟨v0,v1,v2⟩:=V.aO);(have ⟨o0,o1,o2,z0,z1,z2⟩:=O.fS))
  go_roundw
  case rel=>exact ⟨j+1,(X3,Y3,E3),by omega,by omega,by go_num,hnx,hres,EW B,O.xr _ _ _,((C.other (by omega) _).other (by omega) _).other (by omega) _,((Q.other (by omega) _).other (by omega) _).other (by omega) _⟩
  case measure=>simp [intOf];omega
 obtain rfl:j=13:=by omega
 obtain rfl:res=none:=hres.out.symm;go_wp2;go_ret2;exact ⟨rfl,B⟩
end
section
open Go.RowKit Go.Shelf
namespace M
theorem Ad {n:Int} (h:iH n=true):0<=rt n/\rt n*rt n=n:=by
 unfold rt;rw [h];unfold iH at h;simp only [Bool.and_eq_true,decide_eq_true_eq,beq_iff_eq] at h;exact ⟨(iF h.1).1,h.2⟩
noncomputable def ep (a b x:Int):List Dy:=
 if iH (cv a b x 1)=true then (if rt (cv a b x 1)=0 then [(x,0,1)] else if (aS a b).tmod (rt (cv a b x 1)*rt (cv a b x 1))=0 then [(x,-rt (cv a b x 1),1),(x,rt (cv a b x 1),1)] else []) else []
noncomputable def ch (a b:Int):Nat->List Dy
 | 0=>[]
 | n+1=>ch a b n ++ ep a b ((n:Int) - 3000)
noncomputable def dh (a:Int) (p:Dy):Bool:=(fJ a p.1 p.2.1 p.2.2).isSome
noncomputable def pJ (a b:Int):List Dy:=(0,0,0) :: (ch a b 6001).filter (dh a)
theorem rA (a b x:Int):(ep a b x).length<=2:=by
 unfold ep
 split
 ·split
  ·simp
  split <;> simp
 simp
theorem iR (a b:Int):∀ n,(ch a b n).length<=2*n
 | 0=>DF _
 | n+1=>by
  have h1:=iR a b n;have h2:=rA a b ((n:Int) - 3000)
  show (ch a b n ++ ep a b ((n:Int) - 3000)).length<=2*(n+1)
  rw [List.length_append];omega
theorem tm {a b x:Int} (h1:-10000<=x) (h2:x<=10000):∀ p ∈ ep a b x,aY a b p.1 p.2.1 p.2.2=true:=by
 unfold ep
 cases hs:iH (cv a b x 1) with
 | false=>intro p hp;simp at hp
 | true=>
 obtain ⟨r0,hr⟩:=Ad hs
 have ok:∀ y,y*y=cv a b x 1->aY a b x y 1=true:=fun y hy=>by
  unfold aY;rw [if_neg (by decide)];simp only [Bool.and_eq_true,beq_iff_eq,decide_eq_true_eq];exact ⟨⟨⟨iy.2 ⟨h1,h2⟩,rfl⟩,by unfold M.gcd;simp⟩,hy⟩
 rw [if_pos rfl]
 split
 ·rename_i h0
  intro p hp;obtain rfl:=List.mem_singleton.1 hp;exact ok 0 (by rw [←hr,h0])
 split
 ·intro p hp
  simp only [List.mem_cons,List.not_mem_nil,or_false] at hp
  rcases hp with rfl | rfl
  ·exact ok _ (by rw [Int.neg_mul_neg];exact hr)
  exact ok _ hr
 intro p hp;simp at hp
theorem mL {a b:Int}:∀ n:Nat,n<=6001->∀ p ∈ ch a b n,aY a b p.1 p.2.1 p.2.2=true
 | 0,_,p,hp=>by simp [ch] at hp
 | n+1,hn,p,hp=>by
  rcases List.mem_append.1 (show p ∈ ch a b n ++ ep a b ((n:Int) - 3000) from hp) with h | h
  ·exact mL n (by omega) p h
  exact tm (by omega) (by omega) p h
theorem vf {a b x:Int} (ha1:-1000<=a) (ha2:a<=1000) (hb1:-10000<=b) (hb2:b<=10000) (hx1:-3000<=x) (hx2:x<=3000):cv a b x 1<=30000000000:=by
 have e:cv a b x 1=x*x*x+a*x+b:=by unfold cv;grind
 have s1:=M.aH (x:=x) (y:=x) (m:=3000) (n:=3000);have s2:=M.aH (x:=x*x) (y:=x) (m:=9000000) (n:=3000);have s3:=M.aH (x:=a) (y:=x) (m:=1000) (n:=3000);omega
end M
def Fs:Rw.Enc (Int × Int × Int) where
 t:=40
 k:=3
 cells:=fun q=>[.int .i64 q.1,.int .i64 q.2.1,.int .i64 q.2.2]
 len:=fun _=>rfl
 one:=fun x u hu=>by simp only [List.mem_cons,List.not_mem_nil,or_false] at hu;rcases hu with rfl | rfl | rfl <;> rfl
 pos:=by decide
theorem BT:(Tryz.prog.info? 40).map (fun i=>(i.zero,i.size,i.bytes))=some (some (.agg #[(0:Int),(0:Int),(0:Int)]),3,24):=by kernel_rfl
theorem ng:Rw.Fits Tryz.prog Fs 26:=⟨Tryz.underlying26,by
 obtain ⟨i0,hi,hz0,hz1,hz2⟩:=info_parts BT
 exact ⟨i0,_,hi,hz0,hz1,by omega,rfl⟩⟩
theorem Rw.Seen.Mc {w:World} {hi:Nat} {v:Value} {l:List Pt} (h:Rw.Seen Fs w hi v l):gQ w v l:=by
 obtain ⟨a,cap,rfl,h1,h2,h3⟩:=h;refine ⟨a,cap,rfl,?_⟩
 cases l with
 | nil=>exact Or.inl rfl
 | cons p l=>
 obtain ⟨g,x,e,-⟩:=h3 0 (by simp);refine Or.inr ⟨g,e,fun i y hy=>?_⟩;obtain ⟨g2,x2,e2,-,hx2,hc⟩:=h3 i (List.getElem?_eq_some_iff.1 hy).1;rw [e] at e2
 injection e2 with e2
 injection e2 with e2
 subst e2;rw [hy] at hx2;obtain rfl:=Option.some.inj hx2.out;exact ⟨hc 0 _ rfl,hc 1 _ rfl,hc 2 _ rfl⟩
theorem np {w:World} {H:Nat} (x y z:Int) (hH:w.heap.size=H):Rw.From Fs (w.alloc (.cells #[x,y,z] 40)) (some ⟨H,0,none⟩) [(x,y,z)]:=Rw.From.lit Fs w (x,y,z) H hH
theorem ym {w:World} {H:Nat} (x y z x2 y2 z2:Int) (hH:w.heap.size=H):Rw.From Fs (w.alloc (.cells #[x,y,z,x2,y2,z2] 40)) (some ⟨H,0,none⟩) [(x,y,z),(x2,y2,z2)]:=by
 subst hH;intro j u hu;refine ⟨_,rfl,?_⟩
 have hadd:∀ b i:Nat,(⟨b,0,none⟩:Addr).add i=⟨b,i,none⟩:=fun b i=>by unfold Addr.add;split <;> simp_all
 have hu2:[Value.int .i64 x,.int .i64 y,.int .i64 z,.int .i64 x2,.int .i64 y2,.int .i64 z2][j]?=some u:=hu;rw [hadd,World.cell?_alloc_at _ _ _ _ rfl]
 show (List.toArray _)[j]?=some u
 rw [List.getElem?_toArray];exact hu2
theorem gQ.mX {W W':World} {r:Option Nat} {A:Option Addr} {n c:Nat} {l:List Pt} (h:gQ W (.slice A n c) l) (hg:W.grownBy W' r) (hn:∀ k,r=some k->A≠some ⟨k,0,none⟩):gQ W' (.slice A n c) l:=by
 obtain ⟨a,cap,e,h⟩:=h;cases e
 refine ⟨_,_,rfl,?_⟩
 rcases h with h | ⟨g,rfl,h⟩
 ·exact Or.inl h
 refine Or.inr ⟨g,rfl,fun k p hp=>?_⟩
 have hne:some g≠r:=fun e=>hn g e.symm rfl
 obtain ⟨h1,h2,h3⟩:=h k p hp;exact ⟨hg.cell h1 hne,hg.cell h2 hne,hg.cell h3 hne⟩
theorem iq {B:Nat} {a w:World} (h:Below B a w) (n:Nat):Below B a (w.drewN n):=⟨h.os,h.tape,h.output,h.size,h.block⟩
theorem aG.mX {W W':World} {g:Nat} {r:Option Nat} {T:TypeId} {xs:Array Value} (h:aG W g T xs) (hg:W.grownBy W' r) (hn:∀ k,r=some k->g≠k):aG W' g T xs:=
 (hg.block g h.lt fun e=>by
  cases r with
  | none=>cases e
  | some k=>exact hn k rfl (Option.some.inj e)).trans h
theorem nT (a b:Int) (w:World) (hg:M.good a b=true) :
  Calls Tryz.prog 65 #[.agg #[a,b]] w fun e w'=>∃ v',e=.returned v'/\Rw.Own Fs w' w.heap.size v' (M.ch a b 6001)/\Below w.heap.size w w':=by
 obtain ⟨ha1,ha2,hb1,hb2⟩:=M.ag (M.aj hg)
 have PV:=DB fun (x:Int) (h1:-3000<=x) (h2:x<=3000) W=>f8 a b x 1 W ha1 ha2 hb1 hb2 (by omega) (by omega) (by omega) (by omega)
 have HB:=DB fun (x:Int) (h1:-3000<=x) (h2:x<=3000)=>M.vf (a:=a) (b:=b) (x:=x) ha1 ha2 hb1 hb2 h1 h2
 have PC:=fun W=>nY a b W (M.aj hg)
 have hdb:=sU (M.aj hg)
 have hlen:=DB fun n=>M.iR a b n
 have hat:∀ x,M.ep a b x=if M.iH (M.cv a b x 1)=true then (if M.rt (M.cv a b x 1)=0 then [(x,0,1)] else if (M.aS a b).tmod (M.rt (M.cv a b x 1)*M.rt (M.cv a b x 1))=0 then [(x,-M.rt (M.cv a b x 1),1),(x,M.rt (M.cv a b x 1),1)] else []) else []:=fun _=>rfl
 replace hat:=DB hat;clear hg ha1 ha2 hb1 hb2;generalize M.aS a b=dd at *;replace PC:=DB PC;obtain ⟨wc,hw3,C,B⟩:=dD w #[a,b] 25;have hlt0:=C.lt;go_enter Tryz.func65,Tryz.ntmps65
 go_wp2
 go_loopw [3,4] (fun vs vi wq=>∃ j:Nat,j<=6001/\vi=.int .i64 ((j:Int) - 3000)/\Hid (Rw.Own Fs wq wc.heap.size vs (M.ch a b j))/\Below wc.heap.size wc wq) (fun _ vi _=>(3001 - intOf vi).toNat)
 case atStart=>exact ⟨0,by omega,rfl,DB (Rw.Own.nil Fs _ _),DE _ _⟩
 case round=>
 obtain ⟨j,hj,rfl,hown,hbr⟩:=hrel;have Fl:=hbr.size;obtain ⟨A,cap,rfl,-,-,-⟩:=hown.out.seen
 by_cases hlt:j<6001
 ·obtain ⟨x,hx⟩:∃ x:Int,x=(j:Int) - 3000:=⟨_,rfl⟩
  have hx1:-3000<=x:=by omega
  have hx2:x<=3000:=by omega
  have hnx:M.ch a b (j+1)=M.ch a b j ++ M.ep a b x:=by rw [hx];rfl
  have hxn:x+1=((j+1:Nat):Int) - 3000:=by omega
  have hlj:=hlen.out j;rw [hat.out x] at hnx;replace PV:=PV.out x hx1 hx2;replace HB:=HB.out x hx1 hx2;rw [←hx];replace hx:=DB hx;replace hxn:=DB hxn
  have hrt:=fun h=>M.Ad (n:=M.cv a b x 1) h
  have hrn:=fun h=>M.xl (n:=M.cv a b x 1) h
  have PX:=fun W=>iw (M.cv a b x 1) W (by omega)
  generalize M.cv a b x 1=c at *;generalize M.ch a b j=xs,M.iH c=s,M.rt c=r at *
  obtain ⟨ys,hys⟩:∃ l,M.ch a b (j+1)=l:=⟨_,rfl⟩
  rw [hys] at hnx;replace hys:=DB hys;have C2:=C.keep hbr;have ⟨k0,k1,_,_,_⟩:=C2.box;replace PV:=DB PV
  obtain ⟨N,hN⟩:∃ N,N=xs.length:=⟨_,rfl⟩
  rw [←hN] at hown hlj ⊢;replace hN:=DB hN
  cases s with
  | false=>
   obtain rfl:=hrn rfl;rw [if_neg (by decide),List.append_nil] at hnx;subst hnx;clear hrt hrn;replace PX:=DB PX
   go_wp2_with (first | (go_at_call 84;(with_reducible refine (PV.out _).mono ?_);rintro e w4 ⟨rfl,hb4⟩) | (go_at_call 85;(with_reducible refine (PX.out _).mono ?_);rintro e w5 ⟨rfl,rfl⟩))
   go_roundw
   case rel=>exact ⟨j+1,by omega,congrArg (Value.int .i64) hxn.out,DB (by rw [hys.out];exact hown.out.below hb4),hbr.trans (hb4.mono Fl)⟩
   case measure=>simp [intOf];omega
  | true=>
  obtain ⟨r0,hrr⟩:=hrt rfl;rw [if_pos rfl] at hnx;clear hrt hrn;replace PX:=DB PX
  have hrb:r<=200000:=by
   rcases Int.lt_or_le 200000 r with q | q
   ·have:=Int.mul_le_mul (show 200001<=r by omega) (show 200001<=r by omega) (by decide) r0
    omega
   exact q
  by_cases h0:r=0
  ·subst h0
   rw [if_pos rfl] at hnx;clear hrr;replace hnx:=DB hnx
   go_wp2_with (first | (go_at_call 84;(with_reducible refine (PV.out _).mono ?_);rintro e w4 ⟨rfl,hb4⟩;have D7:=hb4.size) | (go_at_call 85;(with_reducible refine (PX.out _).mono ?_);rintro e w5 ⟨rfl,rfl⟩) | (at_builtin;refine Rw.push ng (W:=wc) wc.heap.size [(x,0,1)] _ _ (some ⟨_,0,none⟩) 1 1 (by rfl) (by rfl) (.tmp 24) (.tmp 27) (by rfl) (by rfl) (by rfl) (np x 0 1 (by simp)) ((hown.out.below hb4).alloc _) ((hbr.trans (hb4.mono Fl)).alloc (by omega) _) (by simp;omega) (by have:=hN.out;simp;omega) ?_;intro v6 w6 hown6 hb6))
   go_roundw
   case rel=>exact ⟨j+1,by omega,congrArg (Value.int .i64) hxn.out,DB (by rw [hys.out,hnx.out];exact hown6),hb6⟩
   case measure=>simp [intOf];omega
  rw [if_neg h0] at hnx
  have KE:1<=r:=by omega
  have hr0:(r == 0)=false:=by simpa using h0
  have hq1:1<=r*r:=Int.le_trans (by decide) (Int.mul_le_mul KE KE (by decide) r0);have hq2:=M.aH (x:=r) (y:=r) (m:=200000) (n:=200000)
  have hqz:¬ r*r=0:=by omega
  have MQ:(r*r == 0)=false:=by simpa using hqz
  by_cases ht:dd.tmod (r*r)=0
  ·rw [if_pos ht] at hnx
   replace hnx:=DB hnx
   have htb:(dd.tmod (r*r) == 0)=true:=by simpa using ht
   clear hrr
   go_wp2_with (first | (go_at_call 84;(with_reducible refine (PV.out _).mono ?_);rintro e w4 ⟨rfl,hb4⟩;have D7:=hb4.size;have C3:=C2.keep hb4;(have ⟨l0,l1,_,_,_⟩:=C3.box)) | (go_at_call 85;(with_reducible refine (PX.out _).mono ?_);rintro e w5 ⟨rfl,rfl⟩) | (go_at_call 106;(with_reducible refine (PC.out _).mono ?_);rintro e w7 ⟨rfl,DL⟩;have Qy:=DL.size) | (at_builtin;refine Rw.push ng (W:=wc) wc.heap.size [(x,-r,1),(x,r,1)] _ _ (some ⟨_,0,none⟩) 2 2 (by rfl) (by rfl) (.tmp 37) (.tmp 45) (by rfl) (by rfl) (by rfl) (ym x (-r) 1 x r 1 (by simp)) (((hown.out.below hb4).below DL).alloc _) (((hbr.trans (hb4.mono Fl)).trans (DL.mono (by omega))).alloc (by omega) _) (by simp;omega) (by have:=hN.out;simp;omega) ?_;intro v6 w6 hown6 hb6))
   go_roundw
   case rel=>exact ⟨j+1,by omega,congrArg (Value.int .i64) hxn.out,DB (by rw [hys.out,hnx.out];exact hown6),hb6⟩
   case measure=>simp [intOf];omega
  rw [if_neg ht,List.append_nil] at hnx;subst hnx
  have htb:(dd.tmod (r*r) == 0)=false:=by simpa using ht
  clear hrr
  go_wp2_with (first | (go_at_call 84;(with_reducible refine (PV.out _).mono ?_);rintro e w4 ⟨rfl,hb4⟩;have D7:=hb4.size;have C3:=C2.keep hb4;(have ⟨l0,l1,_,_,_⟩:=C3.box)) | (go_at_call 85;(with_reducible refine (PX.out _).mono ?_);rintro e w5 ⟨rfl,rfl⟩) | (go_at_call 106;(with_reducible refine (PC.out _).mono ?_);rintro e w7 ⟨rfl,DL⟩;have Qy:=DL.size))
  go_roundw
  case rel=>exact ⟨j+1,by omega,congrArg (Value.int .i64) hxn.out,DB (by rw [hys.out];exact (hown.out.below hb4).below DL),(hbr.trans (hb4.mono Fl)).trans (DL.mono (by omega))⟩
  case measure=>simp [intOf];omega
 obtain rfl:j=6001:=by omega
 go_wp2;go_ret;exact ⟨_,rfl,hown.out.down B.size,d_ B hbr⟩
theorem kD (a b:Int) (w:World) (hg:M.good a b=true) :
  Calls Tryz.prog 29 #[.agg #[a,b]] w fun e w'=>∃ v',e=.returned v'/\gQ w' v' (M.pJ a b)/\(M.pJ a b).length<=12100/\Below w.heap.size w w':=by
 have PK:=DB fun W=>nT a b W hg
 have PO:=DB fun (p:M.Dy) (h:M.aY a b p.1 p.2.1 p.2.2=true) W=>gZ a b p.1 p.2.1 p.2.2 W hg h
 have hall:=M.mL (a:=a) (b:=b) 6001 (DF _);have hlen:=M.iR a b 6001;have hto:M.pJ a b=(0,0,0) :: (M.ch a b 6001).filter (M.dh a):=rfl;rw [hto]
 have hti:∀ p:M.Dy,M.dh a p=(M.fJ a p.1 p.2.1 p.2.2).isSome:=fun _=>rfl
 generalize M.ch a b 6001=cs at *;replace hti:=DB hti;replace hall:=DB hall;clear hg hto;obtain ⟨wc,hw3,C,B⟩:=dD w #[a,b] 25;have hC0:=C.lt;have hown:Rw.Own Fs (wc.alloc (.cells #[(0:Int),(0:Int),(0:Int)] 40)) wc.heap.size (.slice (some ⟨wc.heap.size,0,none⟩) 1 1) [(0,0,0)]:=Rw.Own.Cj Fs (0,0,0) wc wc.heap.size (DF _);have hbl:=bA wc (.cells #[(0:Int),(0:Int),(0:Int)] 40);have C1:=C.keep hbl;have ⟨k0,k1,_,_,_⟩:=C1.box;go_enter Tryz.func29,Tryz.ntmps29
 have hz1:=hbl.size
 have hl1:wc.heap.size<(wc.alloc (.cells #[(0:Int),(0:Int),(0:Int)] 40)).heap.size:=by rw [DC];omega
 generalize hw1:wc.alloc (.cells #[(0:Int),(0:Int),(0:Int)] 40)=w1 at *
 go_wp2_with (go_at_call 65;(with_reducible refine (PK.out _).mono ?_);rintro e w4 ⟨v4,rfl,hc4,hb4⟩;(obtain ⟨A4,cap4,rfl,-,-,-⟩:=hc4.seen))
 have hpv:=hc4.seen.Mc;have H4:=hc4.lt;have D7:=hb4.size
 obtain ⟨N,hN⟩:∃ N,N=cs.length:=⟨_,rfl⟩
 rw [←hN] at hpv hlen ⊢;replace hN:=DB hN;replace hown:=hown.below hb4;replace B:=(d_ B hbl).trans (hb4.mono (by have:=B.size;omega));replace C:=(C.keep hbl).keep hb4
 have hap:∀ k,A4=some ⟨k,0,none⟩->wc.heap.size<k/\k<w4.heap.size:=fun k hk=>by
  subst hk;have:=H4 k rfl;omega
 clear H4 hw1 k0 k1 PK hbl C1 hw3;have Fm:=B.size;replace hap:=DB hap
 go_loopw [3,13] (fun vs vi wq=>∃ i:Nat,i<=N/\vi=.int .i64 i/\Hid (Rw.Own Fs wq wc.heap.size vs ((0,0,0) :: (cs.take i).filter (M.dh a)))/\Hid (∀ k,vs.ownBlock=some k->A4≠some ⟨k,0,none⟩)/\Hid (gQ wq (.slice A4 N cap4) cs)/\w4.heap.size<=wq.heap.size/\Below w.heap.size w wq/\aG wq w.heap.size 25 #[a,b]) (fun _ vi _=>N - (intOf vi).toNat)
 case atStart=>exact ⟨0,by omega,rfl,DB hown,DB (fun k hk e=>by have h1:=hap.out k e;have h2:wc.heap.size=k:=Option.some.inj hk;omega),DB hpv,DF _,B,C⟩
 case round=>
 clear B C hown hpv;obtain ⟨i,hi,rfl,hown,hne,hpv,LO,B,C⟩:=hrel
 by_cases hlt:i<N
 ·obtain ⟨p,hpi⟩:∃ p,cs[i]?=some p:=⟨_,List.getElem?_eq_getElem (by have:=hN.out;omega)⟩
  obtain ⟨g,rfl,hpa⟩:∃ g,A4=some ⟨g,0,none⟩/\fL wr g cs:=by
   obtain ⟨A,cap,e,h⟩:=hpv.out;cases e
   rcases h with h | h
   ·rw [h] at hpi;cases hpi
   exact h
  obtain ⟨d0,d1,d2⟩:=hpa i p hpi;have hgb:=hap.out g rfl;replace PO:=PO.out p (hall.out p (List.mem_of_getElem? hpi));have hq:=hti.out p
  have htk:(cs.take (i+1)).filter (M.dh a)=(cs.take i).filter (M.dh a) ++ (if M.dh a p=true then [p] else []):=by
   rw [List.take_add_one,hpi,List.filter_append];simp only [Option.toList_some,List.filter_cons,List.filter_nil]
  obtain ⟨X,Y,E⟩:=p
  dsimp only at PO d0 d1 d2 hq
  rw [←hq] at PO;clear hq hpi hpa;generalize (M.fJ a X Y E).getD 0=od,M.dh a (X,Y,E)=tq at *;have Fl:=B.size
  have hfl:((0,0,0) :: (cs.take i).filter (M.dh a)).length<=12100:=by
   have:=List.length_filter_le (M.dh a) (cs.take i);rw [List.length_cons]
   have h2:(cs.take i).length<=cs.length:=by rw [List.length_take];omega
   have:=hN.out;omega
  replace hpv:=hpv.out;have B2:=B.alloc Fl (.cells #[X,Y,E] 40);have V:=aG.new wr #[X,Y,E] 40;have C2:=C.alloc (.cells #[X,Y,E] 40);have hown2:=hown.out.alloc (.cells #[X,Y,E] 40);have hpv2:=hpv.below (bA wr (.cells #[X,Y,E] 40))
  have hz2:wr.heap.size<=(wr.alloc (.cells #[X,Y,E] 40)).heap.size:=by rw [DC];omega
  have ⟨k0,k1,_,_,_⟩:=C2.box;have ⟨v0,v1,v2⟩:=V.aO;have hvw:=V.lt
  have hie:(i:Int)<(N:Int):=by omega
  replace PO:=DB PO;replace hpv2:=DB hpv2;replace hown2:=DB hown2;replace htk:=DB htk
  obtain ⟨ys,hys⟩:∃ l,(0,0,0) :: (cs.take i).filter (M.dh a)=l:=⟨_,rfl⟩
  rw [hys] at hown hown2 hfl;replace hys:=DB hys;clear hpv
  cases tq with
  | false=>
   go_wp2_with (go_at_call 59;(with_reducible refine (PO.out _).mono ?_);rintro e w5 ⟨rfl,hb5⟩)
   go_roundw
   case rel=>exact ⟨i+1,by omega,by go_num,DB (by rw [htk.out,if_neg (by decide),List.append_nil,hys.out];exact hown2.out.below hb5),hne,DB (hpv2.out.below hb5),by have:=hb5.size;omega,d_ B2 hb5,C2.keep hb5⟩
   case measure=>simp [intOf];omega
  | true=>
  obtain ⟨Av,cv,rfl,-,-,-⟩:=hown.out.seen
  obtain ⟨M0,hM0⟩:∃ m,m=ys.length:=⟨_,rfl⟩
  rw [←hM0] at hown hown2 hfl hne ⊢;replace hM0:=DB hM0
  go_wp2_with (first | (go_at_call 59;(with_reducible refine (PO.out _).mono ?_);rintro e w5 ⟨rfl,hb5⟩;have hz5:=hb5.size;have V2:=V.keep hb5;(have ⟨u0,u1,u2⟩:=V2.aO)) | (at_builtin;refine Rw.xY ng wc.heap.size [(X,Y,E)] ys _ ⟨_,0,none⟩ 1 1 (by rfl) (by rfl) (.tmp 24) (.tmp 26) (by rfl) (by rfl) (by rfl) (np X Y E (by simp)) ((hown2.out.below hb5).alloc _) (by simp;omega) (by have:=hM0.out;simp;omega) ?_;intro v6 w6 hown6 FF JH))
  have KG:=FF.size;rw [DC] at KG;have hfr:=hown6
  go_roundw
  case rel=>
   refine ⟨i+1,by omega,by go_num,DB (by rw [htk.out,if_pos trivial,←List.cons_append,hys.out];exact hown6),DB ?_,DB (((hpv2.out.below hb5).below (bA _ _)).mX FF ?_),by omega,?_,((C2.keep hb5).alloc _).mX FF ?_⟩
   ·intro k hk e
    rcases JH with h | h
    ·exact hne.out k (by rw [←h];exact hk) e
    rw [h] at hk;have h1:=Option.some.inj hk;rw [DC] at h1
    have h2:g=k:=by cases e;rfl
    omega
   ·exact fun k hk=>hne.out k hk
   ·exact Below.grown ((d_ B2 hb5).alloc (by omega) _) FF (by rw [DC];omega) (fun k hk=>by have:=(hown2.out.lt k hk).1;omega)
   exact fun k hk=>by have:=(hown2.out.lt k hk).1;omega
  case measure=>simp [intOf];omega
 obtain rfl:i=N:=by omega
 have hfull:cs.take i=cs:=by rw [hN.out,List.take_length]
 rw [hfull] at hown;go_wp2;go_ret;refine ⟨_,rfl,hown.out.seen.Mc,?_,B⟩;have:=List.length_filter_le (M.dh a) cs;have:=hN.out;omega
theorem uE (X Y E:Int) (v:Value) (l:List M.Dy) (w:World) (hv:gQ w v l) (hl:l.length<=12100) :
  Calls Tryz.prog 69 #[v,.agg #[X,Y,E]] w fun e w'=>∃ r:Int,e=.returned (.int .i64 r)/\decide (0<=r)=decide ((X,Y,E) ∈ l)/\Below w.heap.size w w':=by
 obtain ⟨A,cap,rfl,hv⟩:=hv
 obtain ⟨N,hN⟩:∃ N,N=l.length:=⟨_,rfl⟩
 rw [←hN] at hl ⊢;replace hN:=DB hN;replace hv:=DB hv;obtain ⟨wc,hw3,Q,B⟩:=dD w #[X,Y,E] 40;go_enter Tryz.func69,Tryz.ntmps69
 go_wp2
 go_loopw [8] (fun vi wq=>∃ i:Nat,i<=N/\vi=.int .i64 i/\Hid (∀ p ∈ l.take i,(X,Y,E)≠p)/\Below w.heap.size w wq/\aG wq w.heap.size 40 #[X,Y,E]) (fun vi _=>N - (intOf vi).toNat)
 case atStart=>exact ⟨0,by omega,rfl,DB (fun p hp=>by simp at hp),B,Q⟩
 case round=>
 clear B Q;obtain ⟨i,hi,rfl,hno,B,Q⟩:=hrel
 by_cases hlt:i<N
 ·obtain ⟨p,hpi⟩:∃ p,l[i]?=some p:=⟨_,List.getElem?_eq_getElem (by have:=hN.out;omega)⟩
  obtain ⟨g,rfl,hpa⟩:∃ g,A=some ⟨g,0,none⟩/\fL w g l:=by
   rcases hv.out with h | h
   ·rw [h] at hpi;cases hpi
   exact h
  have hmem:=List.mem_of_getElem? hpi;obtain ⟨d0,d1,d2⟩:=hpa.below B i p hpi
  have hie:(i:Int)<(N:Int):=by omega
  have ⟨q0,q1,q2⟩:=Q.aO
  have htk:l.take (i+1)=l.take i ++ [p]:=by rw [List.take_add_one,hpi];rfl
  clear hpa hpi
  by_cases he:(X,Y,E)=p
  ·subst he
   clear htk
   dsimp only at d0 d1 d2
   replace hmem:=DB hmem
   go_wp2_with fail
   go_quiet (fail)
   go_wp2;go_ret;exact ⟨_,rfl,by rw [decide_eq_true hmem.out];exact decide_eq_true (by omega),iq B _⟩
  have hnx:Hid (∀ q ∈ l.take (i+1),(X,Y,E)≠q):=DB (fun q hq=>by
   rw [htk] at hq
   rcases List.mem_append.1 hq with h | h
   ·exact hno.out q h
   rw [List.mem_singleton.1 h];exact he)
  obtain ⟨x,y,z⟩:=p
  dsimp only at d0 d1 d2
  have hcase:¬ (X=x/\Y=y/\E=z):=fun ⟨h1,h2,h3⟩=>he (by rw [h1,h2,h3])
  clear hmem htk he
  by_cases h1:X=x
  ·by_cases h2:Y=y
   ·have h3:¬ E=z:=fun h=>hcase ⟨h1,h2,h⟩
    clear hcase
    go_wp2_with fail
    go_quiet (fail)
    go_wp2
    go_roundw
    case rel=>exact ⟨i+1,by omega,by go_num,hnx,iq B _,Q⟩
    case measure=>simp [intOf];omega
   clear hcase
   go_wp2_with fail
   go_quiet (fail)
   go_wp2
   go_roundw
   case rel=>exact ⟨i+1,by omega,by go_num,hnx,iq B _,Q⟩
   case measure=>simp [intOf];omega
  clear hcase
  go_wp2_with fail
  go_quiet (fail)
  go_wp2
  go_roundw
  case rel=>exact ⟨i+1,by omega,by go_num,hnx,iq B _,Q⟩
  case measure=>simp [intOf];omega
 obtain rfl:i=N:=by omega
 have hall:(X,Y,E) ∉ l:=fun h=>hno.out _ (by rw [hN.out,List.take_length];exact h) rfl
 replace hall:=DB hall;go_wp2;go_ret;exact ⟨_,rfl,by rw [decide_eq_false hall.out];decide,B⟩
theorem nX (X Y E:Int) (v:Value) (l:List M.Dy) (w:World) (hv:gQ w v l) (hl:l.length<=12100) :
  Calls Tryz.prog 33 #[v,.agg #[X,Y,E]] w fun e w'=>e=.returned (.bool (decide ((X,Y,E) ∈ l)))/\Below w.heap.size w w':=by
 have PI:=DB fun W (h:gQ W v l)=>uE X Y E v l W h hl
 obtain ⟨wc,hw3,Q,B⟩:=dD w #[X,Y,E] 40;have hv2:=DB (hv.below B);have ⟨q0,q1,q2⟩:=Q.aO;obtain ⟨A,cap,rfl,-⟩:=hv;generalize l.length=n at *;go_enter Tryz.func33,Tryz.ntmps33
 go_wp2_with (go_at_call 69;(refine (PI.out _ hv2.out).mono ?_);rintro e w4 ⟨r,rfl,hr,hb4⟩;replace B:=d_ B hb4)
 go_ret;exact ⟨rfl,B⟩
end
section
namespace M
theorem kT {a b X Y E:Int} (hg:good a b=true) (hp:aY a b X Y E=true):∀ n p,EG a X Y E n=some p->cW p.1 p.2.1 p.2.2=i_.mul a n (cW X Y E)
 | 0,p,h=>by
  cases h
  exact oc 0 0
 | n+1,p,h=>by
  cases hq:EG a X Y E n with
  | none=>
   have:=lk hq (n+1) (by omega);rw [this] at h;cases h
  | some q=>
  rw [jI hq] at h
  split at h
  ·rename_i hk
   cases h
   have ih:=kT hg hp n q hq;have:=nI hg (gq hg hp n q hq) hp hk;rw [ih] at this;exact this
  cases h
theorem tC {a X Y E:Int}:∀ (f n k:Nat),mF a X Y E f n=some k->n<=k/\k<n+f/\∃ p,EG a X Y E k=some p/\p.2.2=0
 | 0,n,k,h=>by cases h
 | f+1,n,k,h=>by
  cases ht:EG a X Y E n with
  | none=>rw [mh ht] at h;cases h
  | some p=>
  rw [jb ht] at h
  split at h
  ·rename_i he
   cases h
   exact ⟨DF _,by omega,p,ht,he⟩
  obtain ⟨h1,h2,h3⟩:=tC f (n+1) k h;exact ⟨by omega,by omega,h3⟩
theorem oV {a b X Y E:Int} (hg:good a b=true) (hp:aY a b X Y E=true) (h:(fJ a X Y E).isSome=true):∃ n:Nat,1<=n/\n<=12/\i_.mul a n (cW X Y E)=.O:=by
 obtain ⟨n,hn⟩:=Option.isSome_iff_exists.1 h;obtain ⟨h1,h2,p,h3,h4⟩:=tC 12 1 n hn;refine ⟨n,h1,by omega,?_⟩;rw [←kT hg hp n p h3,h4];exact oc _ _
theorem pV {a b:Int} {p:Dy}:∀ (m j:Nat),j<m->p ∈ ep a b ((j:Int) - 3000)->p ∈ ch a b m
 | 0,j,h,_=>by omega
 | m+1,j,h,hp=>by
  refine List.mem_append.2 ?_
  by_cases e:j=m
  ·subst e;exact Or.inr hp
  exact Or.inl (pV m j (by omega) hp)
theorem vZ {a b X Y:Int} (ha1:-1000<=a) (ha2:a<=1000) (hb1:-10000<=b) (hb2:b<=10000) (h:Y*Y=X*X*X+a*X+b) (hd:Y*Y<=10000000000):-3000<=X/\X<=3000:=by
 have Fb:0<=Y*Y:=by rcases Int.le_total 0 Y with q | q;exact Int.mul_nonneg q q;exact Int.mul_nonneg_of_nonpos_of_nonpos q q
 have key:∀ t:Int,3001<=t->27000000000<=t*t*t - 1000*t - 10000:=fun t ht=>by
  have h1:9000000<=t*t:=Int.le_trans (by decide) (Int.mul_le_mul (show 3000<=t by omega) (show 3000<=t by omega) (by decide) (by omega));have h2:=Int.mul_le_mul (show 8999000<=t*t - 1000 by omega) ht (by decide) (by omega)
  have e:t*t*t - 1000*t=(t*t - 1000)*t:=by grind
  omega
 constructor
 ·rcases Int.lt_or_le X (-3000) with q | q
  ·have h1:=key (-X) (by omega)
   have e:-X*-X*-X=-(X*X*X):=by grind
   have h2:a*X<=1000*-X:=by
    have h5:a*X=(-a)*(-X):=by rw [Int.neg_mul_neg]
    rw [h5];exact Int.mul_le_mul_of_nonneg_right (by omega) (by omega)
   omega
  exact q
 rcases Int.lt_or_le 3000 X with q | q
 ·have h1:=key X (by omega)
  have h2:-(1000*X)<=a*X:=by
   have h6:=Int.mul_le_mul_of_nonneg_right (show -1000<=a by omega) (show 0<=X by omega);omega
  omega
 exact q
theorem yN {a b X Y E:Int} (hg:good a b=true) (hp:aY a b X Y E=true) (hE:E≠0) (h:(fJ a X Y E).isSome=true):(X,Y,E) ∈ ch a b 6001:=by
 obtain ⟨n,hn1,hn2,hm⟩:=oV hg hp h;have hd:=uD hg;have hon:=eP hp;obtain ⟨hx,hz⟩:=xX hp hE;obtain ⟨hX,hE1,hc,hY⟩:=gj hp hE;obtain ⟨ha1,ha2,hb1,hb2⟩:=ag (aj hg)
 have hO:cW X Y E≠.O:=fun e=>by rw [e] at hz;have:E*E≠0:=Int.mul_ne_zero hE hE;exact this hz.symm
 have h1:i_.pz (cW X Y E)=1:=(i_.tV hd n hn1 hn2 _ hon hm).resolve_left hO
 have hE2:E=1:=by
  rw [hz] at h1
  rcases Int.lt_or_le 1 E with q | q
  ·have:=Int.mul_le_mul (show 2<=E by omega) (show 2<=E by omega) (by decide) (by omega)
   omega
  omega
 subst hE2
 have hcv:Y*Y=X*X*X+a*X+b:=by rw [hY];unfold cv;grind
 have hdv:Y=0∨Y*Y ∣ aS a b:=by
  obtain ⟨d,hd0,-,e1,e2⟩:=i_.pg hd hon;rw [hx,h1] at e1 e2
  have hm2:i_.mul a n (i_.add a (cW X Y 1) (cW X Y 1))=.O:=by
   rw [i_.oK (i_.cN hd) hon,i_.fB (i_.cN hd) hon,hm];rfl
  rcases i_.tV hd n hn1 hn2 _ (i_.dJ (i_.cN hd) hon hon) hm2 with q | q
  ·rw [q] at e2
   have e3:Wh.af a b X 1=0:=by rw [e2];show d*0=0;omega
   left
   have e4:Wh.af a b X 1=4*(Y*Y):=by unfold Wh.af;rw [hcv];grind
   have e5:Y*Y=0:=by omega
   rcases Int.mul_eq_zero.1 e5 with q | q <;> exact q
  rw [q,Int.mul_one] at e2;exact Or.inr (i_.DA hcv e1 e2)
 have hbd:=sU (aj hg)
 have hyb:Y*Y<=10000000000:=by
  rcases hdv with q | q
  ·rw [q];decide
  have h2:=Int.natAbs_dvd_natAbs.2 q;have h3:=Nat.le_of_dvd (by omega) h2
  have Fb:0<=Y*Y:=by rcases Int.le_total 0 Y with q | q;exact Int.mul_nonneg q q;exact Int.mul_nonneg_of_nonpos_of_nonpos q q
  omega
 obtain ⟨x1,x2⟩:=vZ ha1 ha2 hb1 hb2 hcv hyb;refine pV 6001 (X+3000).toNat (by omega) ?_
 have hxe:((X+3000).toNat:Int) - 3000=X:=by omega
 rw [hxe];unfold ep;have D3:iH (cv a b X 1)=true:=iz hY;rw [if_pos D3]
 have hrt:rt (cv a b X 1)=Y∨rt (cv a b X 1)=-Y:=by
  rcases Int.le_total 0 Y with q | q
  ·exact Or.inl (ot q hY)
  exact Or.inr (ot (by omega) (by rw [Int.neg_mul_neg];exact hY))
 by_cases h0:Y=0
 ·have:rt (cv a b X 1)=0:=by rcases hrt with q | q <;> omega
  rw [if_pos this,h0];exact List.mem_singleton.2 rfl
 have hne:rt (cv a b X 1)≠0:=by rcases hrt with q | q <;> omega
 have hrr:rt (cv a b X 1)*rt (cv a b X 1)=Y*Y:=by
  rcases hrt with q | q <;> rw [q]
  exact Int.neg_mul_neg _ _
 rw [if_neg hne,if_pos (by rw [hrr];exact Int.tmod_eq_zero_of_dvd (hdv.resolve_left h0))];simp only [List.mem_cons,Prod.mk.injEq,true_and,and_true,List.not_mem_nil,or_false]
 rcases hrt with q | q <;> omega
theorem Co (a:Int):(fJ a 0 0 0).isSome=true:=by
 have h0:EG a 0 0 0 0=some (0,0,0):=rfl
 have h1:EG a 0 0 0 1=some (0,0,0):=by
  rw [jI h0];rfl
 unfold fJ;rw [jb h1];rfl
theorem yP {a b X Y E:Int} (hg:good a b=true) (hp:aY a b X Y E=true):decide ((X,Y,E) ∈ pJ a b)=(fJ a X Y E).isSome:=by
 unfold pJ
 cases h:(fJ a X Y E).isSome with
 | true=>
  refine decide_eq_true ?_
  by_cases hE:E=0
  ·obtain ⟨rfl,rfl⟩:=Bj hp hE
   subst hE;exact List.mem_cons_self
  exact List.mem_cons_of_mem _ (List.mem_filter.2 ⟨yN hg hp hE h,h⟩)
 | false=>
 refine decide_eq_false fun hm=>?_
 rcases List.mem_cons.1 hm with q | q
 ·cases q
  rw [Co] at h;cases h
 have:=(List.mem_filter.1 q).2;unfold dh at this;rw [h] at this;cases this
end M
end
section
open Go.RowKit
namespace M
theorem xQ {n:Int} (h1:-144<=n) (h2:n<=144):pn (n*4096)=n/\pd (n*4096)=1:=by
 have hg:M.gcd (n*4096) 4096=4096:=by
  unfold M.gcd Int.gcd;rw [Int.natAbs_mul]
  show ((Nat.gcd (n.natAbs*4096) 4096:Nat):Int)=4096
  rw [Nat.gcd_mul_left_left];rfl
 have hf:=nh (a:=n*4096) (g:=4096) (q:=1) (n:=n) hg (by decide) (by decide) rfl
 have ho:eO n 1=true:=by
  unfold eO;simp [M.ins,M.gcd]
  omega
 rw [ho,if_pos rfl] at hf;unfold pn pd;rw [hf];exact ⟨rfl,rfl⟩
end M
def eI (w:World) (base:Nat) (v:Value) (rows:M.Dm):Prop:=∃ vs,bQ w base v vs rows
theorem eI.below {w w':World} {base:Nat} {v:Value} {rows:M.Dm} (h:eI w base v rows) (hb:Below w.heap.size w w'):eI w' base v rows:=h.elim fun vs k=>⟨vs,k.below hb⟩
theorem eI.base {w:World} {base base':Nat} {v:Value} {rows:M.Dm} (h:eI w base v rows) (hb:base'<=base):eI w base' v rows:=h.elim fun vs k=>⟨vs,k.base hb⟩
theorem eI.nil (w:World) (base:Nat):eI w base (.slice none 0 0) []:=⟨[],bQ.nil w base⟩
theorem eI.at {w:World} {base:Nat} {v:Value} {rows:M.Dm} (h:eI w base v rows) {i j:Nat} {r:List (Int × Int)} {q:Int × Int} (hr:rows[i]?=some r) (hq:r[j]?=some q) :
  ∃ (g cap g2 cap2:Nat),v=.slice (some ⟨g,0,none⟩) rows.length cap/\w.cell? ⟨g,i,none⟩=some (.slice (some ⟨g2,0,none⟩) r.length cap2)/\w.cell? ⟨g2,j*2,none⟩=some (.int .i64 q.1)/\w.cell? ⟨g2,j*2+1,none⟩=some (.int .i64 q.2):=by
 obtain ⟨vs,h⟩:=h;obtain ⟨a,cap,rfl,-,hv⟩:=h.view;obtain ⟨g,u,r',rfl,-,h1,-,h2,h3⟩:=hv i (List.getElem?_eq_some_iff.1 hr).1
 have e:r'=r:=by
  have:=h1.out;rw [hr] at this;exact (Option.some.inj this).symm
 subst e
 rcases h3.forms with ⟨-,h4⟩ | ⟨g2,cap2,rfl,-,-,-,-⟩
 ·rw [h4] at hq;cases hq
 have hc:=fun t (ht:t<2)=>(h3.cellAt rfl (j*2+t) _ ((Rw.flat_get EP r' j t q hq ht).trans (List.getElem?_eq_getElem (by rw [EP.len];exact ht)))).1
 exact ⟨g,cap,g2,cap2,rfl,h2,hc 0 (by decide),hc 1 (by decide)⟩
def bf (xs:List (Int × Int)):Array Value:=(xs.flatMap EP.cells).toArray
def eW (W:World) (gm n:Nat) (rows:M.Dm):Prop:=
 rows.length=n/\aG W gm 130 ((List.range n).map fun i=>Value.slice (some ⟨gm+1+i,0,none⟩) n n).toArray/\∀ (i:Nat) (r:List (Int × Int)),rows[i]?=some r->r.length=n/\aG W (gm+1+i) 74 (bf r)
theorem eW.below {W W':World} {gm n:Nat} {rows:M.Dm} (h:eW W gm n rows) (hb:Below W.heap.size W W'):eW W' gm n rows:=
 ⟨h.1,h.2.1.keep hb,fun i r hr=>⟨(h.2.2 i r hr).1,(h.2.2 i r hr).2.keep hb⟩⟩
theorem eW.row {W:World} {gm n:Nat} {rows:M.Dm} (h:eW W gm n rows) {i:Nat} (hi:i<n):W.cell? ⟨gm,i,none⟩=some (.slice (some ⟨gm+1+i,0,none⟩) n n):=by
 refine (h.2.1.cell i).trans ?_;rw [List.getElem?_toArray,List.getElem?_map,List.getElem?_range hi];rfl
theorem eW.mat {W:World} {gm n base:Nat} {rows:M.Dm} (h:eW W gm n rows) (hb:base<=gm) (hn:n<=1000000):eI W base (.slice (some ⟨gm,0,none⟩) n n) rows:=by
 obtain ⟨h1,h2,h3⟩:=h;refine ⟨(List.range n).map fun i=>Value.slice (some ⟨gm+1+i,0,none⟩) n n,?_,?_,?_,?_⟩
 ·rw [h1]
  refine ⟨by simp,Or.inr ⟨gm,n,_,rfl,hb,h2,DF _,by unfold maxLen;omega,by simp,List.take_of_length_le (by simp)⟩⟩
 ·simp [h1]
 ·intro i u r hu hr
  have hi:i<n:=by rw [←h1];exact (List.getElem?_eq_some_iff.1 hr).1
  rw [List.getElem?_map,List.getElem?_range hi] at hu;have hu:Value.slice (some ⟨gm+1+i,0,none⟩) n n=u:=Option.some.inj hu;subst hu;obtain ⟨k1,k2⟩:=h3 i r hr;refine ⟨Rw.cP EP r,Or.inr ⟨gm+1+i,n,_,by rw [k1],by omega,k2,by omega,by unfold maxLen;omega,?_,?_⟩⟩
  ·unfold bf;rw [List.size_toArray,Rw.cP,k1]
  exact List.take_of_length_le (Nat.le_of_eq (Rw.cP EP r))
 rw [List.pairwise_map];refine List.Pairwise.imp ?_ (List.nodup_range (n:=n));intro a b hab g hg hg';simp only [Value.ownBlock,Option.some.injEq] at hg hg';exact hab (by omega)
theorem oo {r:List (Int × Int)} {j:Nat} (q:Int × Int) (hj:j<r.length):((bf r).setIfInBounds (j*2) (.int .i64 q.1)).setIfInBounds (j*2+1) (.int .i64 q.2)=bf (r.set j q):=by
 have hl:(r.flatMap EP.cells).length=r.length*2:=Rw.cP EP r;have hz:(bf r).size=r.length*2:=hl
 apply Array.ext_getElem?
 intro t;have hs:=Rw.pu EP r j q hj t;have hk:EP.k=2:=rfl;rw [hk] at hs
 show _=(bf (r.set j q))[t]?
 have e1:(bf (r.set j q))[t]?=((r.set j q).flatMap EP.cells)[t]?:=List.getElem?_toArray;have e2:(bf r)[t]?=(r.flatMap EP.cells)[t]?:=List.getElem?_toArray;rw [e1,hs,Array.getElem?_setIfInBounds,Array.getElem?_setIfInBounds,Array.size_setIfInBounds,hz,e2]
 by_cases h1:j*2+1=t
 ·subst h1
  rw [if_pos rfl,if_pos (by omega),if_pos (by omega)]
  have:j*2+1 - j*2=1:=by omega
  rw [this];rfl
 rw [if_neg h1]
 by_cases h2:j*2=t
 ·subst h2
  rw [if_pos rfl,if_pos (by omega),if_pos (by omega)]
  have:j*2 - j*2=0:=by omega
  rw [this];rfl
 rw [if_neg h2,if_neg (by omega)]
theorem eW.put {W:World} {gm n:Nat} {rows:M.Dm} (h:eW W gm n rows) {i j:Nat} {r:List (Int × Int)} (hr:rows[i]?=some r) (hj:j<n) (q:Int × Int):eW ((W.setCell ⟨gm+1+i,j*2,none⟩ (.int .i64 q.1)).setCell ⟨gm+1+i,j*2+1,none⟩ (.int .i64 q.2)) gm n (rows.set i (r.set j q)):=by
 obtain ⟨h1,h2,h3⟩:=h;obtain ⟨k1,k2⟩:=h3 i r hr;refine ⟨by rw [List.length_set];exact h1,(h2.other (by omega) _).other (by omega) _,fun i' r' hr'=>?_⟩
 by_cases hi:i=i'
 ·subst hi
  rw [List.getElem?_set_self (List.getElem?_eq_some_iff.1 hr).1] at hr';have e:=Option.some.inj hr';subst e;refine ⟨by rw [List.length_set];exact k1,?_⟩;rw [←oo q (by omega)];exact (k2.set _ _).set _ _
 rw [List.getElem?_set_ne hi] at hr';obtain ⟨m1,m2⟩:=h3 i' r' hr';exact ⟨m1,(m2.other (by omega) _).other (by omega) _⟩
theorem eW.cells {W:World} {gm n:Nat} {rows:M.Dm} (h:eW W gm n rows) {i j:Nat} {r:List (Int × Int)} {q:Int × Int} (hr:rows[i]?=some r) (hq:r[j]?=some q):W.cell? ⟨gm+1+i,j*2,none⟩=some (.int .i64 q.1)/\W.cell? ⟨gm+1+i,j*2+1,none⟩=some (.int .i64 q.2)/\W.frozen? ⟨gm+1+i,j*2,none⟩=false/\W.frozen? ⟨gm+1+i,j*2+1,none⟩=false/\gm+1+i<W.heap.size:=by
 obtain ⟨k1,k2⟩:=h.2.2 i r hr
 have hc:=fun t (ht:t<2)=>(k2.cell (j*2+t)).trans ((List.getElem?_toArray (xs:=r.flatMap EP.cells) (i:=j*2+t)).trans ((Rw.flat_get EP r j t q hq ht).trans (List.getElem?_eq_getElem (by rw [EP.len];exact ht))))
 exact ⟨hc 0 (by decide),hc 1 (by decide),k2.DJ _,k2.DJ _,k2.lt⟩
theorem xG (n:Nat) (hn:n<=4):madeCells (Value.agg #[(0:Int),(0:Int)]).cells (n*2)=bf (List.replicate n (0,0)):=by
 have hc:n=0∨n=1∨n=2∨n=3∨n=4:=by omega
 rcases hc with rfl | rfl | rfl | rfl | rfl <;> (simp [madeCells,bf,EP,Value.cells,Array.range_succ,(show Array.range 0=#[] from rfl),List.replicate])
theorem uL (n:Nat) (hn:n<=4):madeCells (Value.slice none 0 0).cells (n*1)=(List.replicate n (Value.slice none 0 0)).toArray:=by
 have hc:n=0∨n=1∨n=2∨n=3∨n=4:=by omega
 rcases hc with rfl | rfl | rfl | rfl | rfl <;> (simp [madeCells,bf,EP,Value.cells,Array.range_succ,(show Array.range 0=#[] from rfl),List.replicate])
theorem zH (w:World) (n:Nat) (hn:n<=4):(Instr.makeSlice 130 (.int .i64 (n:Int)) (.int .i64 (n:Int))).run Tryz.prog w=.ok (.slice (some ⟨w.heap.size,0,none⟩) n n) (w.alloc (.cells (bf (List.replicate n (0,0))) 74)):=by
 obtain ⟨i0,hi,hz0,hz1,hz2⟩:=info_parts wh;have hr:=run_make (P:=Tryz.prog) w 130 74 i0 _ Tryz.underlying130 hi hz0 .i64 .i64 n n (by omega) (Int.le_refl _) (by rw [hz2];omega) (by omega);rw [hz1] at hr;rw [Int.toNat_natCast,xG n hn] at hr;exact hr
theorem xH (w:World) (n:Nat) (hn:n<=4):(Instr.makeSlice 98 (.int .i64 (n:Int)) (.int .i64 (n:Int))).run Tryz.prog w=.ok (.slice (some ⟨w.heap.size,0,none⟩) n n) (w.alloc (.cells (List.replicate n (Value.slice none 0 0)).toArray 130)):=by
 obtain ⟨i0,hi,hz0,hz1,hz2⟩:=info_parts wj;have hr:=run_make (P:=Tryz.prog) w 98 130 i0 _ Tryz.underlying98 hi hz0 .i64 .i64 n n (by omega) (Int.le_refl _) (by rw [hz2];omega) (by omega);rw [hz1] at hr;rw [Int.toNat_natCast,uL n hn] at hr;exact hr
namespace M
noncomputable def Ml (s:Sp):Int × Int:=(DQ s,DZ s)
noncomputable def d7 (a b:Int) (l:List Pt):Dm:=if EO a b l=true then (List.range l.length).map (fun i=>(List.range l.length).map fun j=>Ml (ent a b l i j)) else []
end M
def fG (gm n k:Nat):Array Value:=((List.range n).map fun i=>if i<k then Value.slice (some ⟨gm+1+i,0,none⟩) n n else Value.slice none 0 0).toArray
theorem qZ (gm n:Nat):fG gm n 0=(List.replicate n (Value.slice none 0 0)).toArray:=by
 unfold fG
 congr 1
 simp [List.map_const']
theorem qY {gm n k:Nat} (hk:k<n):(fG gm n k).setIfInBounds k (.slice (some ⟨gm+1+k,0,none⟩) n n)=fG gm n (k+1):=by
 unfold fG
 apply Array.ext_getElem?
 intro t;rw [Array.getElem?_setIfInBounds];simp only [List.size_toArray,List.length_map,List.length_range,List.getElem?_toArray,List.getElem?_map]
 by_cases h:k=t
 ·subst h
  rw [if_pos rfl,if_pos hk,List.getElem?_range hk];simp
 rw [if_neg h]
 rcases Nat.lt_or_ge t n with q | q
 ·rw [List.getElem?_range q]
  simp only [Option.map_some]
  congr 1
  by_cases h2:t<k
  ·rw [if_pos h2,if_pos (by omega)]
  rw [if_neg h2,if_neg (by omega)]
 rw [List.getElem?_eq_none (by simp;omega)];rfl
theorem uf {gm n k:Nat} (hk:k<n):(fG gm n k)[k]?=some (.slice none 0 0):=by
 unfold fG;rw [List.getElem?_toArray,List.getElem?_map,List.getElem?_range hk];simp
namespace M
def done (i k:Nat) (x y:Nat):Bool:=decide (min x y<i) || (decide (min x y=i) && decide (max x y<k))
def dF (n:Nat) (p:Nat->Bool) (f:Nat->Int × Int):List (Int × Int):=(List.range n).map fun j=>if p j then f j else (0,0)
def dE (n:Nat) (P:Nat->Nat->Bool) (f:Nat->Nat->Int × Int):Dm:=(List.range n).map fun i=>dF n (P i) (f i)
noncomputable def fe (a b:Int) (l:List Pt) (i j:Nat):Int × Int:=Ml (ent a b l i j)
theorem gG (n:Nat) (p:Nat->Bool) (f:Nat->Int × Int):(dF n p f).length=n:=by unfold dF;rw [List.length_map,List.length_range]
theorem jH (n:Nat) (P:Nat->Nat->Bool) (f:Nat->Nat->Int × Int):(dE n P f).length=n:=by unfold dE;rw [List.length_map,List.length_range]
theorem de {n i:Nat} (P:Nat->Nat->Bool) (f:Nat->Nat->Int × Int) (h:i<n):(dE n P f)[i]?=some (dF n (P i) (f i)):=by
 unfold dE;rw [List.getElem?_map,List.getElem?_range h];rfl
theorem eV {n j:Nat} (p:Nat->Bool) (f:Nat->Int × Int) (h:j<n):(dF n p f)[j]?=some (if p j then f j else (0,0)):=by
 unfold dF;rw [List.getElem?_map,List.getElem?_range h];rfl
theorem lj {n:Nat} {p q:Nat->Bool} {f:Nat->Int × Int} (h:∀ j,j<n->p j=q j):dF n p f=dF n q f:=by
 unfold dF
 refine List.map_congr_left fun j hj=>?_
 rw [h j (List.mem_range.1 hj)]
theorem yI {n:Nat} {P Q:Nat->Nat->Bool} {f:Nat->Nat->Int × Int} (h:∀ i,i<n->∀ j,j<n->P i j=Q i j):dE n P f=dE n Q f:=by
 unfold dE
 refine List.map_congr_left fun i hi=>?_
 exact lj (h i (List.mem_range.1 hi))
theorem ro {n j:Nat} {p q:Nat->Bool} {f:Nat->Int × Int} (hj:j<n) (h1:q j=true) (h2:∀ t,t≠j->t<n->q t=p t):(dF n p f).set j (f j)=dF n q f:=by
 apply List.ext_getElem?
 intro t
 rcases Nat.lt_or_ge t n with q1 | q1
 ·rw [eV q f q1]
  by_cases e:j=t
  ·subst e
   rw [List.getElem?_set_self (by rw [gG];exact q1),if_pos h1]
  rw [List.getElem?_set_ne e,eV p f q1,h2 t (fun h=>e h.symm) q1]
 rw [List.getElem?_eq_none (by rw [List.length_set,gG];exact q1),List.getElem?_eq_none (by rw [gG];exact q1)]
theorem li {n i j:Nat} {P Q:Nat->Nat->Bool} {f:Nat->Nat->Int × Int} (hi:i<n) (hj:j<n) (h1:Q i j=true) (h2:∀ x y,¬ (x=i/\y=j)->x<n->y<n->Q x y=P x y):(dE n P f).set i ((dF n (P i) (f i)).set j (f i j))=dE n Q f:=by
 rw [ro (p:=P i) (q:=Q i) (f:=f i) hj h1 (fun t ht htn=>h2 i t (fun h=>ht h.2) hi htn)]
 apply List.ext_getElem?
 intro t
 rcases Nat.lt_or_ge t n with q1 | q1
 ·rw [de Q f q1]
  by_cases e:i=t
  ·subst e
   rw [List.getElem?_set_self (by rw [jH];exact q1)]
  rw [List.getElem?_set_ne e,de P f q1,lj (p:=P t) (q:=Q t) (fun y hy=>(h2 t y (fun h=>e h.1.symm) q1 hy).symm)]
 rw [List.getElem?_eq_none (by rw [List.length_set,jH];exact q1),List.getElem?_eq_none (by rw [jH];exact q1)]
theorem ul (n:Nat) (f:Nat->Nat->Int × Int):List.replicate n (List.replicate n ((0:Int),(0:Int)))=dE n (done 0 0) f:=by
 apply List.ext_getElem?
 intro t
 rcases Nat.lt_or_ge t n with q1 | q1
 ·rw [de _ f q1,List.getElem?_replicate,if_pos q1]
  congr 1
  apply List.ext_getElem?
  intro y
  rcases Nat.lt_or_ge y n with q2 | q2
  ·rw [eV _ _ q2,List.getElem?_replicate,if_pos q2]
   simp [done]
  rw [List.getElem?_eq_none (by rw [List.length_replicate];exact q2),List.getElem?_eq_none (by rw [gG];exact q2)]
 rw [List.getElem?_eq_none (by rw [List.length_replicate];exact q1),List.getElem?_eq_none (by rw [jH];exact q1)]
def half (i k:Nat) (x y:Nat):Bool:=done i k x y || (decide (x=i) && decide (y=k))
def C8 (i k:Nat):Nat->Nat->Nat->Bool
 | 0=>done i k
 | 1=>half i k
 | _=>done i (k+1)
theorem xZ {n i:Nat} (f:Nat->Nat->Int × Int) (hi:i<n):(dE n (done i i) f).set i ((dF n (done i i i) (f i)).set i (f i i))=dE n (done i (i+1)) f:=by
 refine li hi hi (by simp [done]) fun x y h _ _=>?_
 unfold done
 by_cases h1:min x y<i
 ·simp [h1]
 have h3:¬ (min x y=i/\max x y<i+1):=fun ⟨a1,a2⟩=>h ⟨by omega,by omega⟩
 have h4:¬ (min x y=i/\max x y<i):=fun ⟨a1,a2⟩=>by omega
 simp only [h1,decide_false,Bool.false_or,←Bool.decide_and,h3,h4]
theorem zg {n i k:Nat} (f:Nat->Nat->Int × Int) (hi:i<k) (hk:k<n):(dE n (done i k) f).set i ((dF n (done i k i) (f i)).set k (f i k))=dE n (half i k) f:=
 li (by omega) hk (by simp [half]) fun x y h _ _=>by
  unfold half
  have:(decide (x=i) && decide (y=k))=false:=by rw [←Bool.decide_and,decide_eq_false_iff_not];exact h
  rw [this,Bool.or_false]
theorem zh {n i k:Nat} (f:Nat->Nat->Int × Int) (hs:f k i=f i k) (hi:i<k) (hk:k<n):(dE n (half i k) f).set k ((dF n (half i k k) (f k)).set i (f i k))=dE n (done i (k+1)) f:=by
 rw [←hs]
 refine li hk (by omega) (by simp [done];omega) fun x y h _ _=>?_
 unfold half done
 by_cases h1:min x y<i
 ·simp [h1]
 by_cases h2:x=i/\y=k
 ·obtain ⟨rfl,rfl⟩:=h2
  have e1:min x y=x:=by omega
  have e2:max x y<y+1:=by omega
  simp [e1,e2]
 have h3:(min x y=i/\max x y<k+1) ↔ (min x y=i/\max x y<k):=⟨fun ⟨a1,a2⟩=>⟨a1,by omega⟩,fun ⟨a1,a2⟩=>⟨a1,by omega⟩⟩
 simp only [h1,decide_false,Bool.false_or,←Bool.decide_and,h2,Bool.or_false,h3]
theorem tz {n i:Nat} (f:Nat->Nat->Int × Int):dE n (done i n) f=dE n (done (i+1) (i+1)) f:=by
 refine yI fun x hx y hy=>?_
 unfold done
 have h2:¬ (min x y=i+1/\max x y<i+1):=by omega
 have h1:(min x y<i∨(min x y=i/\max x y<n)) ↔ min x y<i+1:=by omega
 simp only [←Bool.decide_and,←Bool.decide_or,h2,decide_false,Bool.or_false,h1]
theorem wG {n:Nat} (f:Nat->Nat->Int × Int):dE n (done n n) f=(List.range n).map fun i=>(List.range n).map fun j=>f i j:=by
 unfold dE dF
 refine List.map_congr_left fun i hi=>List.map_congr_left fun j hj=>?_
 have:=List.mem_range.1 hi;have:=List.mem_range.1 hj;rw [if_pos];unfold done;rw [decide_eq_true (by omega:min i j<n)];rfl
theorem BL (a b:Int) (l:List Pt) (i j:Nat):fe a b l i j=fe a b l j i:=by unfold fe;rw [kI]
theorem xO {a b:Int} {l:List Pt} (h:EO a b l=false):d7 a b l=[]:=by unfold d7;rw [h];rfl
theorem uR {a b:Int} {l:List Pt} (h:EO a b l=true):d7 a b l=dE l.length (done l.length l.length) (fe a b l):=by rw [wG];unfold d7;rw [h];rfl
end M
theorem eW.size {W:World} {gm n:Nat} {rows:M.Dm} (h:eW W gm n rows) (hn:0<n):gm+1+n<=W.heap.size:=by
 obtain ⟨h1,h2,h3⟩:=h
 have hl:n - 1<rows.length:=by omega
 have:=(h3 (n - 1) _ (List.getElem?_eq_getElem hl)).2.lt;omega
def dg (w:World) (N:Nat) (a b x1 x2 x3:Int) (pb:Nat) (rows:M.Dm) (W:World):Prop:=
 eW W (w.heap.size+1) N rows/\aG W w.heap.size 25 #[a,b]/\(w.heap.size+1+1+N<=pb/\aG W pb 40 #[x1,x2,x3])/\Below w.heap.size w W
def fV (w:World) (N sb:Nat) (q:Int × Int) (W:World):Prop:=w.heap.size+1+1+N<=sb/\aG W sb 74 #[q.1,q.2]
theorem dg.below {w W W':World} {N:Nat} {a b x1 x2 x3:Int} {pb:Nat} {rows:M.Dm} (h:dg w N a b x1 x2 x3 pb rows W) (hb:Below W.heap.size W W'):dg w N a b x1 x2 x3 pb rows W':=
 ⟨h.1.below hb,h.2.1.keep hb,⟨h.2.2.1.1,h.2.2.1.2.keep hb⟩,h.2.2.2.trans (hb.mono h.2.2.2.size)⟩
theorem fV.below {w W W':World} {N sb:Nat} {q:Int × Int} (h:fV w N sb q W) (hb:Below W.heap.size W W'):fV w N sb q W':=⟨h.1,h.2.keep hb⟩
theorem dg.put {w W:World} {N:Nat} {a b x1 x2 x3:Int} {pb:Nat} {rows rows':M.Dm} {i j:Nat} {r:List (Int × Int)} {q:Int × Int} (h:dg w N a b x1 x2 x3 pb rows W) (hr:rows[i]?=some r) (hj:j<N) (he:rows.set i (r.set j q)=rows'):dg w N a b x1 x2 x3 pb rows' ((W.setCell ⟨w.heap.size+1+1+i,j*2,none⟩ (.int .i64 q.1)).setCell ⟨w.heap.size+1+1+i,j*2+1,none⟩ (.int .i64 q.2)):=by
 subst he
 have hi:i<N:=by rw [←h.1.1];exact (List.getElem?_eq_some_iff.1 hr).1
 have hp:=h.2.2.1.1;exact ⟨h.1.put hr hj q,(h.2.1.other (by omega) _).other (by omega) _,⟨hp,(h.2.2.1.2.other (by omega) _).other (by omega) _⟩,DD (DD h.2.2.2 (by show w.heap.size<=w.heap.size+1+1+i;omega) _) (by show w.heap.size<=w.heap.size+1+1+i;omega) _⟩
theorem fV.put {w W:World} {N sb i j1 j2:Nat} {q:Int × Int} {u v:Value} (h:fV w N sb q W) (hi:i<N):fV w N sb q ((W.setCell ⟨w.heap.size+1+1+i,j1,none⟩ u).setCell ⟨w.heap.size+1+1+i,j2,none⟩ v):=by
 have hp:=h.1;exact ⟨hp,(h.2.other (by omega) _).other (by omega) _⟩
end
end Go.Proofs.YtkalaljcbmkbmaaGreat
