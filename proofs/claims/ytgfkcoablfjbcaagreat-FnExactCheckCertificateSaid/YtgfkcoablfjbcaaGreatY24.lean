/-
  Joined texts: contracts and plain lemmas.
-/
import Derived.Test.YtgfkcoablfjbcaaGreatY1
import Derived.Test.YtgfkcoablfjbcaaGreatY23
import Derived.Test.YtgfkcoablfjbcaaGreatY22
set_option linter.unusedSimpArgs false
set_option linter.unusedVariables false
set_option maxRecDepth 100000
set_option maxHeartbeats 8000000
namespace Go.Proofs.YtgfkcoablfjbcaaGreat
section
open Go.RowKit
def di (w:World) (base:Nat) (v:Value) (rows:M.Mat):Prop:=∃ vs,bV w base v vs rows
theorem di.below {w w':World} {base:Nat} {v:Value} {rows:M.Mat} (h:di w base v rows) (hb:Below w.heap.size w w'):di w' base v rows:=h.elim fun vs k=>⟨vs,k.below hb⟩
theorem di.base {w:World} {base base':Nat} {v:Value} {rows:M.Mat} (h:di w base v rows) (hb:base'≤base):di w base' v rows:=h.elim fun vs k=>⟨vs,k.base hb⟩
theorem di.nil (w:World) (base:Nat):di w base (.slice none 0 0) []:=⟨[],bV.nil w base⟩
theorem di.at {w:World} {base:Nat} {v:Value} {rows:M.Mat} (h:di w base v rows) {i j:Nat} {r:List (Int × Int)} {q:Int × Int} (hr:rows[i]?=some r) (hq:r[j]?=some q) :
  ∃ (g cap g2 cap2:Nat),v=.slice (some ⟨g,0,none⟩) rows.length cap∧w.cell? ⟨g,i,none⟩=some (.slice (some ⟨g2,0,none⟩) r.length cap2)∧w.cell? ⟨g2,j*2,none⟩=some (.int .i64 q.1)∧w.cell? ⟨g2,j*2+1,none⟩=some (.int .i64 q.2):=by
 obtain ⟨vs,h⟩:=h
 obtain ⟨a,cap,rfl,-,hv⟩:=h.view
 obtain ⟨g,u,r',rfl,-,h1,-,h2,h3⟩:=hv i (List.getElem?_eq_some_iff.1 hr).1
 have e:r'=r:=by
  have:=h1.out
  rw [hr] at this
  exact (Option.some.inj this).symm
 subst e
 rcases h3.forms with ⟨-,h4⟩ | ⟨g2,cap2,rfl,-,-,-,-⟩
 ·rw [h4] at hq;cases hq
 have hc:=fun t (ht:t<2)=>(h3.cellAt rfl (j*2+t) _ ((Rw.flat_get EP r' j t q hq ht).trans (List.getElem?_eq_getElem (by rw [EP.len];exact ht)))).1
 exact ⟨g,cap,g2,cap2,rfl,h2,hc 0 (by decide),hc 1 (by decide)⟩
def bk (xs:List (Int × Int)):Array Value:=(xs.flatMap EP.cells).toArray
def dq (W:World) (gm n:Nat) (rows:M.Mat):Prop:=
 rows.length=n∧aH W gm 110 ((List.range n).map fun i=>Value.slice (some ⟨gm+1+i,0,none⟩) n n).toArray∧∀ (i:Nat) (r:List (Int × Int)),rows[i]?=some r→r.length=n∧aH W (gm+1+i) 68 (bk r)
theorem dq.below {W W':World} {gm n:Nat} {rows:M.Mat} (h:dq W gm n rows) (hb:Below W.heap.size W W'):dq W' gm n rows:=
 ⟨h.1,h.2.1.keep hb,fun i r hr=>⟨(h.2.2 i r hr).1,(h.2.2 i r hr).2.keep hb⟩⟩
theorem dq.row {W:World} {gm n:Nat} {rows:M.Mat} (h:dq W gm n rows) {i:Nat} (hi:i<n):W.cell? ⟨gm,i,none⟩=some (.slice (some ⟨gm+1+i,0,none⟩) n n):=by
 refine (h.2.1.cell i).trans ?_
 rw [List.getElem?_toArray,List.getElem?_map,List.getElem?_range hi]
 rfl
theorem dq.mat {W:World} {gm n base:Nat} {rows:M.Mat} (h:dq W gm n rows) (hb:base≤gm) (hn:n≤1000000):di W base (.slice (some ⟨gm,0,none⟩) n n) rows:=by
 obtain ⟨h1,h2,h3⟩:=h
 refine ⟨(List.range n).map fun i=>Value.slice (some ⟨gm+1+i,0,none⟩) n n,?_,?_,?_,?_⟩
 ·rw [h1]
  refine ⟨by simp,Or.inr ⟨gm,n,_,rfl,hb,h2,xA _,by unfold maxLen;omega,by simp,List.take_of_length_le (by simp)⟩⟩
 ·simp [h1]
 ·intro i u r hu hr
  have hi:i<n:=by rw [←h1];exact (List.getElem?_eq_some_iff.1 hr).1
  rw [List.getElem?_map,List.getElem?_range hi] at hu
  have hu:Value.slice (some ⟨gm+1+i,0,none⟩) n n=u:=Option.some.inj hu
  subst hu
  obtain ⟨k1,k2⟩:=h3 i r hr
  refine ⟨Rw.cK EP r,Or.inr ⟨gm+1+i,n,_,by rw [k1],by omega,k2,by omega,by unfold maxLen;omega,?_,?_⟩⟩
  ·unfold bk;rw [List.size_toArray,Rw.cK,k1]
  exact List.take_of_length_le (Nat.le_of_eq (Rw.cK EP r))
 rw [List.pairwise_map]
 refine List.Pairwise.imp ?_ (List.nodup_range (n:=n))
 intro a b hab g hg hg'
 simp only [Value.ownBlock,Option.some.injEq] at hg hg'
 exact hab (by omega)
theorem lO {r:List (Int × Int)} {j:Nat} (q:Int × Int) (hj:j<r.length):((bk r).setIfInBounds (j*2) (.int .i64 q.1)).setIfInBounds (j*2+1) (.int .i64 q.2)=bk (r.set j q):=by
 have hl:(r.flatMap EP.cells).length=r.length*2:=Rw.cK EP r
 have hz:(bk r).size=r.length*2:=hl
 apply Array.ext_getElem?
 intro t
 have hs:=Rw.jK EP r j q hj t
 have hk:EP.k=2:=rfl
 rw [hk] at hs
 show _=(bk (r.set j q))[t]?
 have e1:(bk (r.set j q))[t]?=((r.set j q).flatMap EP.cells)[t]?:=List.getElem?_toArray
 have e2:(bk r)[t]?=(r.flatMap EP.cells)[t]?:=List.getElem?_toArray
 rw [e1,hs,Array.getElem?_setIfInBounds,Array.getElem?_setIfInBounds,Array.size_setIfInBounds,hz,e2]
 by_cases h1:j*2+1=t
 ·subst h1
  rw [if_pos rfl,if_pos (by omega),if_pos (by omega)]
  have:j*2+1 - j*2=1:=by omega
  rw [this]
  rfl
 rw [if_neg h1]
 by_cases h2:j*2=t
 ·subst h2
  rw [if_pos rfl,if_pos (by omega),if_pos (by omega)]
  have:j*2 - j*2=0:=by omega
  rw [this]
  rfl
 rw [if_neg h2,if_neg (by omega)]
theorem dq.put {W:World} {gm n:Nat} {rows:M.Mat} (h:dq W gm n rows) {i j:Nat} {r:List (Int × Int)} (hr:rows[i]?=some r) (hj:j<n) (q:Int × Int):dq ((W.setCell ⟨gm+1+i,j*2,none⟩ (.int .i64 q.1)).setCell ⟨gm+1+i,j*2+1,none⟩ (.int .i64 q.2)) gm n (rows.set i (r.set j q)):=by
 obtain ⟨h1,h2,h3⟩:=h
 obtain ⟨k1,k2⟩:=h3 i r hr
 refine ⟨by rw [List.length_set];exact h1,(h2.other (by omega) _).other (by omega) _,fun i' r' hr'=>?_⟩
 by_cases hi:i=i'
 ·subst hi
  rw [List.getElem?_set_self (List.getElem?_eq_some_iff.1 hr).1] at hr'
  have e:=Option.some.inj hr'
  subst e
  refine ⟨by rw [List.length_set];exact k1,?_⟩
  rw [←lO q (by omega)]
  exact (k2.set _ _).set _ _
 rw [List.getElem?_set_ne hi] at hr'
 obtain ⟨m1,m2⟩:=h3 i' r' hr'
 exact ⟨m1,(m2.other (by omega) _).other (by omega) _⟩
theorem dq.cells {W:World} {gm n:Nat} {rows:M.Mat} (h:dq W gm n rows) {i j:Nat} {r:List (Int × Int)} {q:Int × Int} (hr:rows[i]?=some r) (hq:r[j]?=some q):W.cell? ⟨gm+1+i,j*2,none⟩=some (.int .i64 q.1)∧W.cell? ⟨gm+1+i,j*2+1,none⟩=some (.int .i64 q.2)∧W.frozen? ⟨gm+1+i,j*2,none⟩=false∧W.frozen? ⟨gm+1+i,j*2+1,none⟩=false∧gm+1+i<W.heap.size:=by
 obtain ⟨k1,k2⟩:=h.2.2 i r hr
 have hc:=fun t (ht:t<2)=>(k2.cell (j*2+t)).trans ((List.getElem?_toArray (xs:=r.flatMap EP.cells) (i:=j*2+t)).trans ((Rw.flat_get EP r j t q hq ht).trans (List.getElem?_eq_getElem (by rw [EP.len];exact ht))))
 exact ⟨hc 0 (by decide),hc 1 (by decide),k2.frz _,k2.frz _,k2.lt⟩
theorem sj (n:Nat) (hn:n≤4):madeCells (Value.agg #[.int .i64 0,.int .i64 0]).cells (n*2)=bk (List.replicate n (0,0)):=by
 have hc:n=0∨n=1∨n=2∨n=3∨n=4:=by omega
 rcases hc with rfl | rfl | rfl | rfl | rfl <;> (simp [madeCells,bk,EP,Value.cells,Array.range_succ,(show Array.range 0=#[] from rfl),List.replicate])
theorem qL (n:Nat) (hn:n≤4):madeCells (Value.slice none 0 0).cells (n*1)=(List.replicate n (Value.slice none 0 0)).toArray:=by
 have hc:n=0∨n=1∨n=2∨n=3∨n=4:=by omega
 rcases hc with rfl | rfl | rfl | rfl | rfl <;> (simp [madeCells,bk,EP,Value.cells,Array.range_succ,(show Array.range 0=#[] from rfl),List.replicate])
theorem uI (w:World) (n:Nat) (hn:n≤4):(Instr.makeSlice 110 (.int .i64 (n:Int)) (.int .i64 (n:Int))).run Tryz.prog w=.ok (.slice (some ⟨w.heap.size,0,none⟩) n n) (w.alloc (.cells (bk (List.replicate n (0,0))) 68)):=by
 obtain ⟨i0,hi,hz0,hz1,hz2⟩:=info_parts sR
 have hr:=run_make (P:=Tryz.prog) w 110 68 i0 _ Tryz.underlying110 hi hz0 .i64 .i64 n n (by omega) (Int.le_refl _) (by rw [hz2];omega) (by omega)
 rw [hz1] at hr
 rw [Int.toNat_natCast,sj n hn] at hr
 exact hr
theorem sk (w:World) (n:Nat) (hn:n≤4):(Instr.makeSlice 89 (.int .i64 (n:Int)) (.int .i64 (n:Int))).run Tryz.prog w=.ok (.slice (some ⟨w.heap.size,0,none⟩) n n) (w.alloc (.cells (List.replicate n (Value.slice none 0 0)).toArray 110)):=by
 obtain ⟨i0,hi,hz0,hz1,hz2⟩:=info_parts sS
 have hr:=run_make (P:=Tryz.prog) w 89 110 i0 _ Tryz.underlying89 hi hz0 .i64 .i64 n n (by omega) (Int.le_refl _) (by rw [hz2];omega) (by omega)
 rw [hz1] at hr
 rw [Int.toNat_natCast,qL n hn] at hr
 exact hr
namespace M
noncomputable def spc (s:Sp):Int × Int:=(slo s,shi s)
noncomputable def dg (a b:Int) (l:List Pt):Mat:=if mOk a b l=true then (List.range l.length).map (fun i=>(List.range l.length).map fun j=>spc (ent a b l i j)) else []
end M
def d8 (gm n k:Nat):Array Value:=((List.range n).map fun i=>if i<k then Value.slice (some ⟨gm+1+i,0,none⟩) n n else Value.slice none 0 0).toArray
theorem mr (gm n:Nat):d8 gm n 0=(List.replicate n (Value.slice none 0 0)).toArray:=by
 unfold d8
 congr 1
 simp [List.map_const']
theorem mo {gm n k:Nat} (hk:k<n):(d8 gm n k).setIfInBounds k (.slice (some ⟨gm+1+k,0,none⟩) n n)=d8 gm n (k+1):=by
 unfold d8
 apply Array.ext_getElem?
 intro t
 rw [Array.getElem?_setIfInBounds]
 simp only [List.size_toArray,List.length_map,List.length_range,List.getElem?_toArray,List.getElem?_map]
 by_cases h:k=t
 ·subst h
  rw [if_pos rfl,if_pos hk,List.getElem?_range hk]
  simp
 rw [if_neg h]
 rcases Nat.lt_or_ge t n with q | q
 ·rw [List.getElem?_range q]
  simp only [Option.map_some]
  congr 1
  by_cases h2:t<k
  ·rw [if_pos h2,if_pos (by omega)]
  rw [if_neg h2,if_neg (by omega)]
 rw [List.getElem?_eq_none (by simp;omega)]
 rfl
theorem qe {gm n k:Nat} (hk:k<n):(d8 gm n k)[k]?=some (.slice none 0 0):=by
 unfold d8
 rw [List.getElem?_toArray,List.getElem?_map,List.getElem?_range hk]
 simp
end
section
open Go Go.RowKit
namespace Rg
variable {P:Program} {Q:Exit→Act→World→Prop}
section
variable (P) (Q) (ops:Array Oper) (a0:Act) (T:List Value) (J:Nat→World→Prop) (C:List Nat)
def oj (o:Oper) (a:Act) (t:Nat):Prop:=
 match o.after.toList.find? (fun e=>Region.binds .any e && ((ops[e.on]?).bind (·.dst)) == some t) with
 | some e=>if e.on ∈ C then True else a.tmps[t]?=some (T.getD e.on undef)
 | none=>a.tmps[t]?=a0.tmps[t]?
def bj (k:Nat) (o:Oper):Prop:=
 if k ∈ C then ∀ (a:Act) (w:World),J (C.idxOf k) w→(∀ t ∈ o.looksAt ops,oj ops a0 T C o a t)→Region.wanted o (yielded ops a.tmps)=true∧o.wp P a w (fun a' w'=>(∃ v,a'=a.put o.dst v)∧J (C.idxOf k+1) w') Q
 else ∀ (a:Act) (w:World) (n:Nat),n≤C.length→J n w→(∀ t ∈ o.looksAt ops,oj ops a0 T C o a t)→Region.wanted o (yielded ops a.tmps)=true∧(execOp a.eval o).run P w=.ok (.value (T.getD k undef)) w
def q8:List Oper→Nat→Prop
 | [],_=>True
 | o :: os,k=>bj P Q ops a0 T J C k o∧q8 os (k+1)
def wC (l:Nat→Bool) (vals:Nat→Value) (w:World):Prop:=
 J (cnt l C) w∧∀ i,i ∉ C→l i=true→vals i=T.getD i undef
end
theorem nf {l:Nat→Bool}:∀ C:List Nat,cnt l C≤C.length
 | []=>xA _
 | c :: cs=>by
  unfold cnt
  have:=nf (l:=l) cs
  split
  ·simp only [List.length_cons];omega
  omega
theorem tF {ops:Array Oper} {a0:Act} {T:List Value} {J:Nat→World→Prop} {C:List Nat} (hC:dI ops C=true) :
  ∀ (os:List Oper) (k:Nat),(∀ i,os[i]?=ops[k+i]?)→q8 P Q ops a0 T J C os k→ft P Q .any ops (wC T J C) a0 os k
 | [],_,_,_=>trivial
 | o :: os,k,hos,h=>by
  refine ⟨fun a w l vals hI hl hc hdep hr=>?_,tF hC os (k+1) (fun i=>by rw [show k+1+i=k+(i+1) by omega,←hos (i+1)];rfl) h.2⟩
  obtain ⟨hB,hv⟩:=hI
  have ho:ops[k]?=some o:=(hos 0).symm
  have hQ:∀ t ∈ o.looksAt ops,oj ops a0 T C o a t:=fun t ht=>by
   have:=hr t ht
   unfold rd at this
   unfold oj
   split
   ·rename_i e he
    rw [he] at this
    have h2:=List.find?_some he
    rw [Bool.and_eq_true] at h2
    split
    ·trivial
    rename_i n1
    replace this:a.tmps[t]?=some (vals e.on):=this
    rw [this,hv _ n1 (hdep e (Array.mem_toList_iff.1 (List.mem_of_find?_eq_some he)) h2.1)]
   rename_i he
   rw [he] at this
   exact this
  have hko:∀ j,j≠k→upd l k j=l j:=fun j hj=>if_neg hj
  have h1:=h.1
  unfold bj at h1
  unfold kA
  have rest:∀ v,(k ∉ C→v=T.getD k undef)→∀ i,i ∉ C→upd l k i=true→dP vals k v i=T.getD i undef:=fun v hvk i n1 hi=>by
   by_cases hik:i=k
   ·subst hik
    have:dP vals i v i=v:=if_pos rfl
    rw [this];exact hvk n1
   rw [hko i hik] at hi
   have:dP vals k v i=vals i:=if_neg hik
   rw [this]
   exact hv i n1 hi
  by_cases e3:k ∈ C
  ·rw [if_pos e3] at h1
   obtain ⟨q1,q2⟩:=gL hc hl (fun c hcd=>eO ho hdep hcd) C hC e3
   rw [q1] at hB
   obtain ⟨hw,hwp⟩:=h1 a w hB hQ
   rw [if_pos hw]
   refine Oper.wp_mono ?_ hwp
   rintro a' w' ⟨⟨v,e⟩,h2⟩
   exact ⟨v,e,by rw [q2];exact h2,rest v (fun h=>absurd e3 h)⟩
  rw [if_neg e3] at h1
  obtain ⟨hw,hwp⟩:=h1 a w _ (nf C) hB hQ
  rw [if_pos hw]
  unfold Oper.wp
  rw [hwp]
  exact ⟨_,rfl,by rw [ej C e3];exact hB,rest _ (fun _=>rfl)⟩
theorem ux {id:Nat} {ops:Array Oper} {a0:Act} {w:World} (J:Nat→World→Prop) (C:List Nat) (T:List Value)
  (hm:P.follows .mixedOrders=true) (hok:dz .any ops a0.tmps.size=true) (hC:dI ops C=true) (hcl:∀ c ∈ C,c<ops.size) (h0:J 0 { w with drawn:=w.drawn+1 })
  (hR:q8 P Q ops a0 T J C ops.toList 0)
  (hF:∀ (vals:Nat→Value) (w':World),J C.length w'→(∀ i,i<ops.size→i ∉ C→vals i=T.getD i undef)→Q .normal (fill (fun _=>true) vals ops.toList 0 a0) w'):(Code.region id ops true).wp P Q a0 w:=by
 have c0:∀ C:List Nat,cnt (fun _=>false) C=0:=fun C=>by cases C <;> rfl
 have cl:∀ (l:Nat→Bool) (C:List Nat),(∀ c ∈ C,l c=true)→cnt l C=C.length:=fun l C=>by
  induction C with
  | nil=>intro _;rfl
  | cons c cs ih=>
  intro h
  unfold cnt
  rw [if_pos (h c (List.mem_cons_self ..)),ih (fun x hx=>h x (List.mem_cons_of_mem _ hx))]
  rfl
 refine io (wC T J C) hm hok (fun vals=>⟨?_,(fun _ _ h=>absurd h (by simp))⟩) (tF hC ops.toList 0 (fun i=>by rw [Nat.zero_add];exact Array.getElem?_toList) hR) ?_
 ·rw [c0]
  exact h0
 intro l vals w' hl hI
 obtain ⟨h1,h2⟩:=hI
 rw [cl l C (fun c hc=>hl c (hcl c hc))] at h1
 exact hF vals w' h1 (fun i hi n1=>h2 i n1 (hl i hi))
end Rg
namespace Rg
variable {P:Program} {Q:Exit→Act→World→Prop}
section
variable (P) (Q) (ops:Array Oper) (a0:Act) (T:List Val) (w1:World) (ka ks:Nat) (Tn:TypeId) (xs ys:Array Value)
def bX (k:Nat) (o:Oper):Prop:=
 if k=ka then ∀ (a:Act) (w:World),Region.wanted o (yielded ops a.tmps)=true∧o.wp P a w (fun a' w'=>a'=a.put o.dst (.pointer (some ⟨w.heap.size,0,none⟩))∧w'=w.alloc (.cells xs Tn)) Q
 else if k=ks then ∀ (a:Act) (w:World) (h:Nat),w1.heap.size≤h→aH w h Tn xs→(∀ t ∈ o.looksAt ops,oi ops a0 T ka ks h o a w t)→Region.wanted o (yielded ops a.tmps)=true∧o.wp P a w (fun a' w'=>(∃ v,a'=a.put o.dst v)∧aH w' h Tn ys∧Below w1.heap.size w w') Q
 else ∀ (a:Act) (w:World),Below w1.heap.size w1 w→(∀ t ∈ o.looksAt ops,iy ops a0 T ka ks o a w t)→Does P ops Q (tbl T k) o a w
def qz:List Oper→Nat→Prop
 | [],_=>True
 | o :: os,k=>bX P Q ops a0 T w1 ka ks Tn xs ys k o∧qz os (k+1)
def uz (l:Nat→Bool) (vals:Nat→Value) (w:World):Prop:=
 Below w1.heap.size w1 w∧(∀ i,i≠ka→i≠ks→l i=true→(tbl T i).ok (vals i) w)∧(l ka=true→∃ h,w1.heap.size≤h∧vals ka=.pointer (some ⟨h,0,none⟩)∧aH w h Tn (if l ks=true then ys else xs))
end
theorem tD {ops:Array Oper} {a0:Act} {T:List Val} {w1:World} {ka ks:Nat} {Tn:TypeId} {xs ys:Array Value}
  (hp:∀ j,j≠ka→j≠ks→(tbl T j).pure=true) (hne:ka≠ks) (hE:gh ops ka ks=true) :
  ∀ (os:List Oper) (k:Nat),(∀ i,os[i]?=ops[k+i]?)→qz P Q ops a0 T w1 ka ks Tn xs ys os k→ft P Q .any ops (uz T w1 ka ks Tn xs ys) a0 os k
 | [],_,_,_=>trivial
 | o :: os,k,hos,h=>by
  refine ⟨fun a w l vals hI hl hc hdep hr=>?_,tD hp hne hE os (k+1) (fun i=>by rw [show k+1+i=k+(i+1) by omega,←hos (i+1)];rfl) h.2⟩
  obtain ⟨hB,hv,hn⟩:=hI
  have ho:ops[k]?=some o:=(hos 0).symm
  have hsz:w1.heap.size≤w.heap.size:=hB.size
  have hQ:∀ t ∈ o.looksAt ops,iy ops a0 T ka ks o a w t:=fun t ht=>by
   have:=hr t ht
   unfold rd at this
   unfold iy
   split
   ·rename_i e he
    rw [he] at this
    have h2:=List.find?_some he
    rw [Bool.and_eq_true] at h2
    split
    ·trivial
    split
    ·trivial
    rename_i n1 n2
    exact ⟨_,this,hv _ n1 n2 (hdep e (Array.mem_toList_iff.1 (List.mem_of_find?_eq_some he)) h2.1)⟩
   rename_i he
   rw [he] at this
   exact this
  have hko:∀ j,j≠k→upd l k j=l j:=fun j hj=>if_neg hj
  have hkk:upd l k k=true:=if_pos rfl
  have h1:=h.1
  unfold bX at h1
  unfold kA
  by_cases e1:k=ka
  ·rw [if_pos e1] at h1
   obtain ⟨hw,hwp⟩:=h1 a w
   rw [if_pos hw]
   refine Oper.wp_mono ?_ hwp
   rintro a' w' ⟨rfl,rfl⟩
   subst e1
   have hls:l ks=false:=by
    cases q:l ks
    ·rfl
    rw [dF hc hE q] at hl;cases hl
   refine ⟨_,rfl,?_,?_,fun _=>⟨w.heap.size,hsz,if_pos rfl,?_⟩⟩
   ·exact hB.alloc hsz _
   ·intro i n1 n2 hi
    rw [hko i n1] at hi
    have:dP vals k (.pointer (some ⟨w.heap.size,0,none⟩)) i=vals i:=if_neg n1
    rw [this]
    exact Val.dV (hp i n1 n2) (hv i n1 n2 hi)
   rw [hko ks (fun e=>hne e.symm),hls]
   exact aH.new w xs Tn
  rw [if_neg e1] at h1
  by_cases e2:k=ks
  ·rw [if_pos e2] at h1
   subst e2
   obtain ⟨hh,hh1,hh2,hh3⟩:=hn (eO ho hdep hE)
   rw [hl] at hh3
   obtain ⟨hw,hwp⟩:=h1 a w hh hh1 hh3 (fun t ht=>by
    have:=hr t ht
    unfold rd at this
    unfold oi
    split
    ·rename_i e he
     rw [he] at this
     have h2:=List.find?_some he
     rw [Bool.and_eq_true] at h2
     split
     ·rename_i q
      replace this:a.tmps[t]?=some (vals e.on):=this
      rw [q,hh2] at this
      exact this
     split
     ·trivial
     rename_i n1 n2
     exact ⟨_,this,hv _ n1 n2 (hdep e (Array.mem_toList_iff.1 (List.mem_of_find?_eq_some he)) h2.1)⟩
    rename_i he
    rw [he] at this
    exact this)
   rw [if_pos hw]
   refine Oper.wp_mono ?_ hwp
   rintro a' w' ⟨⟨v,e⟩,h2,h3⟩
   refine ⟨v,e,?_,?_,fun _=>⟨hh,hh1,?_,?_⟩⟩
   ·exact hB.trans h3
   ·intro i n1 n2 hi
    rw [hko i n2] at hi
    have:dP vals k v i=vals i:=if_neg n2
    rw [this]
    exact Val.dV (hp i n1 n2) (hv i n1 n2 hi)
   ·have:dP vals k v ka=vals ka:=if_neg hne
    rw [this];exact hh2
   rw [hkk];exact h2
  rw [if_neg e2] at h1
  have rest:∀ (v:Value) (w':World),(tbl T k).ok v w'→Below w.heap.size w w'→uz T w1 ka ks Tn xs ys (upd l k) (dP vals k v) w':=by
   intro v w' h2 h3
   refine ⟨hB.trans (h3.mono hsz),?_,?_⟩
   ·intro i n1 n2 hi
    by_cases hik:i=k
    ·subst hik
     have:dP vals i v i=v:=if_pos rfl
     rw [this];exact h2
    rw [hko i hik] at hi
    have:dP vals k v i=vals i:=if_neg hik
    rw [this]
    exact Val.dV (hp i n1 n2) (hv i n1 n2 hi)
   intro hi
   rw [hko ka (fun e=>e1 e.symm)] at hi
   obtain ⟨hh,hh1,hh2,hh3⟩:=hn hi
   refine ⟨hh,hh1,?_,?_⟩
   ·have:dP vals k v ka=vals ka:=if_neg (fun e=>e1 e.symm)
    rw [this];exact hh2
   rw [hko ks (fun e=>e2 e.symm)]
   exact hh3.keep h3
  have hd:=h1 a w hB hQ
  unfold Does at hd
  split
  ·rename_i hw
   rw [if_pos hw] at hd
   refine Oper.wp_mono ?_ hd
   rintro a' w' ⟨v,e,h2,h3⟩
   exact ⟨v,e,rest v w' h2 h3⟩
  rename_i hw
  rw [if_neg hw] at hd
  exact rest undef w hd (ww _ _)
theorem uv {id:Nat} {ops:Array Oper} {a0:Act} {w:World} (ka ks:Nat) (Tn:TypeId) (xs ys:Array Value) (T:List Val)
  (hm:P.follows .mixedOrders=true) (hok:dz .any ops a0.tmps.size=true) (hC:(gh ops ka ks && decide (ka<ops.size) && decide (ks<ops.size))=true)
  (hp:∀ j,j≠ka→j≠ks→(tbl T j).pure=true) (hne:ka≠ks)
  (hR:qz P Q ops a0 T w ka ks Tn xs ys ops.toList 0)
  (hF:∀ (vals:Nat→Value) (w':World) (h:Nat),w.heap.size≤h→aH w' h Tn ys→vals ka=.pointer (some ⟨h,0,none⟩)→Below w.heap.size w w'→(∀ i,i<ops.size→i≠ka→i≠ks→(tbl T i).ok (vals i) w')→Q .normal (fill (fun _=>true) vals ops.toList 0 a0) w'):(Code.region id ops true).wp P Q a0 w:=by
 rw [Bool.and_eq_true,Bool.and_eq_true,decide_eq_true_eq,decide_eq_true_eq] at hC
 obtain ⟨⟨hE,ha⟩,hs⟩:=hC
 refine io (uz T w ka ks Tn xs ys) hm hok (fun vals=>⟨?_,(fun _ _ _ h=>absurd h (by simp)),(fun h=>absurd h (by simp))⟩) (tD hp hne hE ops.toList 0 (fun i=>by rw [Nat.zero_add];exact Array.getElem?_toList) hR) ?_
 ·exact (ww _ w).drew
 intro l vals w' hl hI
 obtain ⟨h1,h2,h3⟩:=hI
 obtain ⟨h,q1,q2,q3⟩:=h3 (hl ka ha)
 rw [hl ks hs,if_pos rfl] at q3
 exact hF vals w' h q1 q3 q2 h1 (fun i hi n1 n2=>h2 i n1 n2 (hl i hi))
end Rg
end
section
open Go.RowKit
namespace M
def done (i k:Nat) (x y:Nat):Bool:=decide (min x y<i) || (decide (min x y=i) && decide (max x y<k))
def co (n:Nat) (p:Nat→Bool) (f:Nat→Int × Int):List (Int × Int):=(List.range n).map fun j=>if p j then f j else (0,0)
def cn (n:Nat) (P:Nat→Nat→Bool) (f:Nat→Nat→Int × Int):Mat:=(List.range n).map fun i=>co n (P i) (f i)
noncomputable def fe (a b:Int) (l:List Pt) (i j:Nat):Int × Int:=spc (ent a b l i j)
theorem et (n:Nat) (p:Nat→Bool) (f:Nat→Int × Int):(co n p f).length=n:=by unfold co;rw [List.length_map,List.length_range]
theorem gW (n:Nat) (P:Nat→Nat→Bool) (f:Nat→Nat→Int × Int):(cn n P f).length=n:=by unfold cn;rw [List.length_map,List.length_range]
theorem dO {n i:Nat} (P:Nat→Nat→Bool) (f:Nat→Nat→Int × Int) (h:i<n):(cn n P f)[i]?=some (co n (P i) (f i)):=by
 unfold cn
 rw [List.getElem?_map,List.getElem?_range h]
 rfl
theorem dp {n j:Nat} (p:Nat→Bool) (f:Nat→Int × Int) (h:j<n):(co n p f)[j]?=some (if p j then f j else (0,0)):=by
 unfold co
 rw [List.getElem?_map,List.getElem?_range h]
 rfl
theorem jk {n:Nat} {p q:Nat→Bool} {f:Nat→Int × Int} (h:∀ j,j<n→p j=q j):co n p f=co n q f:=by
 unfold co
 refine List.map_congr_left fun j hj=>?_
 rw [h j (List.mem_range.1 hj)]
theorem tS {n:Nat} {P Q:Nat→Nat→Bool} {f:Nat→Nat→Int × Int} (h:∀ i,i<n→∀ j,j<n→P i j=Q i j):cn n P f=cn n Q f:=by
 unfold cn
 refine List.map_congr_left fun i hi=>?_
 exact jk (h i (List.mem_range.1 hi))
theorem oR {n j:Nat} {p q:Nat→Bool} {f:Nat→Int × Int} (hj:j<n) (h1:q j=true) (h2:∀ t,t≠j→t<n→q t=p t):(co n p f).set j (f j)=co n q f:=by
 apply List.ext_getElem?
 intro t
 rcases Nat.lt_or_ge t n with q1 | q1
 ·rw [dp q f q1]
  by_cases e:j=t
  ·subst e
   rw [List.getElem?_set_self (by rw [et];exact q1),if_pos h1]
  rw [List.getElem?_set_ne e,dp p f q1,h2 t (fun h=>e h.symm) q1]
 rw [List.getElem?_eq_none (by rw [List.length_set,et];exact q1),List.getElem?_eq_none (by rw [et];exact q1)]
theorem jj {n i j:Nat} {P Q:Nat→Nat→Bool} {f:Nat→Nat→Int × Int} (hi:i<n) (hj:j<n) (h1:Q i j=true) (h2:∀ x y,¬ (x=i∧y=j)→x<n→y<n→Q x y=P x y):(cn n P f).set i ((co n (P i) (f i)).set j (f i j))=cn n Q f:=by
 rw [oR (p:=P i) (q:=Q i) (f:=f i) hj h1 (fun t ht htn=>h2 i t (fun h=>ht h.2) hi htn)]
 apply List.ext_getElem?
 intro t
 rcases Nat.lt_or_ge t n with q1 | q1
 ·rw [dO Q f q1]
  by_cases e:i=t
  ·subst e
   rw [List.getElem?_set_self (by rw [gW];exact q1)]
  rw [List.getElem?_set_ne e,dO P f q1,jk (p:=P t) (q:=Q t) (fun y hy=>(h2 t y (fun h=>e h.1.symm) q1 hy).symm)]
 rw [List.getElem?_eq_none (by rw [List.length_set,gW];exact q1),List.getElem?_eq_none (by rw [gW];exact q1)]
theorem qn (n:Nat) (f:Nat→Nat→Int × Int):List.replicate n (List.replicate n ((0:Int),(0:Int)))=cn n (done 0 0) f:=by
 apply List.ext_getElem?
 intro t
 rcases Nat.lt_or_ge t n with q1 | q1
 ·rw [dO _ f q1,List.getElem?_replicate,if_pos q1]
  congr 1
  apply List.ext_getElem?
  intro y
  rcases Nat.lt_or_ge y n with q2 | q2
  ·rw [dp _ _ q2,List.getElem?_replicate,if_pos q2]
   simp [done]
  rw [List.getElem?_eq_none (by rw [List.length_replicate];exact q2),List.getElem?_eq_none (by rw [et];exact q2)]
 rw [List.getElem?_eq_none (by rw [List.length_replicate];exact q1),List.getElem?_eq_none (by rw [gW];exact q1)]
def half (i k:Nat) (x y:Nat):Bool:=done i k x y || (decide (x=i) && decide (y=k))
def wk (i k:Nat):Nat→Nat→Nat→Bool
 | 0=>done i k
 | 1=>half i k
 | _=>done i (k+1)
theorem s8 {n i:Nat} (f:Nat→Nat→Int × Int) (hi:i<n):(cn n (done i i) f).set i ((co n (done i i i) (f i)).set i (f i i))=cn n (done i (i+1)) f:=by
 refine jj hi hi (by simp [done]) fun x y h _ _=>?_
 unfold done
 by_cases h1:min x y<i
 ·simp [h1]
 have h3:¬ (min x y=i∧max x y<i+1):=fun ⟨a1,a2⟩=>h ⟨by omega,by omega⟩
 have h4:¬ (min x y=i∧max x y<i):=fun ⟨a1,a2⟩=>by omega
 simp only [h1,decide_false,Bool.false_or,←Bool.decide_and,h3,h4]
theorem uR {n i k:Nat} (f:Nat→Nat→Int × Int) (hi:i<k) (hk:k<n):(cn n (done i k) f).set i ((co n (done i k i) (f i)).set k (f i k))=cn n (half i k) f:=
 jj (by omega) hk (by simp [half]) fun x y h _ _=>by
  unfold half
  have:(decide (x=i) && decide (y=k))=false:=by rw [←Bool.decide_and,decide_eq_false_iff_not];exact h
  rw [this,Bool.or_false]
theorem uS {n i k:Nat} (f:Nat→Nat→Int × Int) (hs:f k i=f i k) (hi:i<k) (hk:k<n):(cn n (half i k) f).set k ((co n (half i k k) (f k)).set i (f i k))=cn n (done i (k+1)) f:=by
 rw [←hs]
 refine jj hk (by omega) (by simp [done];omega) fun x y h _ _=>?_
 unfold half done
 by_cases h1:min x y<i
 ·simp [h1]
 by_cases h2:x=i∧y=k
 ·obtain ⟨rfl,rfl⟩:=h2
  have e1:min x y=x:=by omega
  have e2:max x y<y+1:=by omega
  simp [e1,e2]
 have h3:(min x y=i∧max x y<k+1) ↔ (min x y=i∧max x y<k):=⟨fun ⟨a1,a2⟩=>⟨a1,by omega⟩,fun ⟨a1,a2⟩=>⟨a1,by omega⟩⟩
 simp only [h1,decide_false,Bool.false_or,←Bool.decide_and,h2,Bool.or_false,h3]
theorem px {n i:Nat} (f:Nat→Nat→Int × Int):cn n (done i n) f=cn n (done (i+1) (i+1)) f:=by
 refine tS fun x hx y hy=>?_
 unfold done
 have h2:¬ (min x y=i+1∧max x y<i+1):=by omega
 have h1:(min x y<i∨(min x y=i∧max x y<n)) ↔ min x y<i+1:=by omega
 simp only [←Bool.decide_and,←Bool.decide_or,h2,decide_false,Bool.or_false,h1]
theorem ro {n:Nat} (f:Nat→Nat→Int × Int):cn n (done n n) f=(List.range n).map fun i=>(List.range n).map fun j=>f i j:=by
 unfold cn co
 refine List.map_congr_left fun i hi=>List.map_congr_left fun j hj=>?_
 have:=List.mem_range.1 hi
 have:=List.mem_range.1 hj
 rw [if_pos]
 unfold done
 rw [decide_eq_true (by omega:min i j<n)]
 rfl
theorem vN (a b:Int) (l:List Pt) (i j:Nat):fe a b l i j=fe a b l j i:=by unfold fe;rw [iY]
theorem sp {a b:Int} {l:List Pt} (h:mOk a b l=false):dg a b l=[]:=by unfold dg;rw [h];rfl
theorem qQ {a b:Int} {l:List Pt} (h:mOk a b l=true):dg a b l=cn l.length (done l.length l.length) (fe a b l):=by rw [ro];unfold dg;rw [h];rfl
end M
theorem dq.size {W:World} {gm n:Nat} {rows:M.Mat} (h:dq W gm n rows) (hn:0<n):gm+1+n≤W.heap.size:=by
 obtain ⟨h1,h2,h3⟩:=h
 have hl:n - 1<rows.length:=by omega
 have:=(h3 (n - 1) _ (List.getElem?_eq_getElem hl)).2.lt
 omega
def dR (w:World) (N:Nat) (a b x1 x2 x3:Int) (pb:Nat) (rows:M.Mat) (W:World):Prop:=
 dq W (w.heap.size+1) N rows∧aH W w.heap.size 29 #[.int .i64 a,.int .i64 b]∧(w.heap.size+1+1+N≤pb∧aH W pb 57 #[.int .i64 x1,.int .i64 x2,.int .i64 x3])∧Below w.heap.size w W
def eI (w:World) (N sb:Nat) (q:Int × Int) (W:World):Prop:=w.heap.size+1+1+N≤sb∧aH W sb 68 #[.int .i64 q.1,.int .i64 q.2]
theorem dR.below {w W W':World} {N:Nat} {a b x1 x2 x3:Int} {pb:Nat} {rows:M.Mat} (h:dR w N a b x1 x2 x3 pb rows W) (hb:Below W.heap.size W W'):dR w N a b x1 x2 x3 pb rows W':=
 ⟨h.1.below hb,h.2.1.keep hb,⟨h.2.2.1.1,h.2.2.1.2.keep hb⟩,h.2.2.2.trans (hb.mono h.2.2.2.size)⟩
theorem eI.below {w W W':World} {N sb:Nat} {q:Int × Int} (h:eI w N sb q W) (hb:Below W.heap.size W W'):eI w N sb q W':=⟨h.1,h.2.keep hb⟩
theorem dR.put {w W:World} {N:Nat} {a b x1 x2 x3:Int} {pb:Nat} {rows rows':M.Mat} {i j:Nat} {r:List (Int × Int)} {q:Int × Int} (h:dR w N a b x1 x2 x3 pb rows W) (hr:rows[i]?=some r) (hj:j<N) (he:rows.set i (r.set j q)=rows'):dR w N a b x1 x2 x3 pb rows' ((W.setCell ⟨w.heap.size+1+1+i,j*2,none⟩ (.int .i64 q.1)).setCell ⟨w.heap.size+1+1+i,j*2+1,none⟩ (.int .i64 q.2)):=by
 subst he
 have hi:i<N:=by rw [←h.1.1];exact (List.getElem?_eq_some_iff.1 hr).1
 have hp:=h.2.2.1.1
 exact ⟨h.1.put hr hj q,(h.2.1.other (by omega) _).other (by omega) _,⟨hp,(h.2.2.1.2.other (by omega) _).other (by omega) _⟩,wu (wu h.2.2.2 (by show w.heap.size≤w.heap.size+1+1+i;omega) _) (by show w.heap.size≤w.heap.size+1+1+i;omega) _⟩
theorem eI.put {w W:World} {N sb i j1 j2:Nat} {q:Int × Int} {u v:Value} (h:eI w N sb q W) (hi:i<N):eI w N sb q ((W.setCell ⟨w.heap.size+1+1+i,j1,none⟩ u).setCell ⟨w.heap.size+1+1+i,j2,none⟩ v):=by
 have hp:=h.1
 exact ⟨hp,(h.2.other (by omega) _).other (by omega) _⟩
end
end Go.Proofs.YtgfkcoablfjbcaaGreat
