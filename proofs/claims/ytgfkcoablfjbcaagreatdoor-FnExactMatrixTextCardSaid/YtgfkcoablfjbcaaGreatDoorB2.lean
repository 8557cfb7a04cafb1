/-
  Joined texts: contracts and plain lemmas.
-/
import Derived.Test.YtgfkcoablfjbcaaGreatDoorB1
import Derived.RegionTactic
import Derived.KernelRfl
import Derived.Deep.DeepCutAuto
import Derived.Deep.RegionWith
import Derived.BigQuiet
import Derived.Outline
import Derived.Lib.SliceRun
import Derived.Shelf.Abstract
import Derived.Deep.QuietTactic
import Derived.OwnWalk
import Derived.Laws.Bits64b
set_option linter.unusedSimpArgs false
set_option linter.unusedVariables false
set_option maxRecDepth 100000
set_option maxHeartbeats 8000000
namespace Go.Proofs.YtgfkcoablfjbcaaGreatDoor
section
open Go.RowKit
namespace Rw
variable {α:Type}
structure Enc (α:Type) where
 t:TypeId
 k:Nat
 cells:α→List Value
 len:∀ x,(cells x).length=k
 one:∀ x,∀ u ∈ cells x,u.oneCell'=true
 pos:0<k
theorem cN (E:Enc α):∀ xs:List α,(xs.flatMap E.cells).length=xs.length*E.k
 | []=>by simp
 | x :: xs=>by rw [List.flatMap_cons,List.length_append,cN E xs,E.len,List.length_cons,Nat.add_mul];omega
theorem flat_get (E:Enc α):∀ (xs:List α) (j i:Nat) (x:α),xs[j]?=some x→i<E.k→(xs.flatMap E.cells)[j*E.k+i]?=(E.cells x)[i]?
 | [],_,_,_,h,_=>by simp at h
 | y :: ys,0,i,x,h,hi=>by
  simp only [List.getElem?_cons_zero,Option.some.injEq] at h
  subst h
  rw [List.flatMap_cons,Nat.zero_mul,Nat.zero_add,List.getElem?_append_left (by rw [E.len];exact hi)]
 | y :: ys,j+1,i,x,h,hi=>by
  have ih:=flat_get E ys j i x (by simpa using h) hi
  rw [List.flatMap_cons,List.getElem?_append_right (by rw [E.len,Nat.add_mul];omega),E.len]
  rw [←ih]
  congr 1
  rw [Nat.add_mul]
  omega
theorem gR (E:Enc α) (xs:List α) (n:Nat):(xs.take n).flatMap E.cells=(xs.flatMap E.cells).take (n*E.k):=by
 have e:xs.flatMap E.cells=(xs.take n).flatMap E.cells ++ (xs.drop n).flatMap E.cells:=by rw [←List.flatMap_append,List.take_append_drop]
 rcases Nat.lt_or_ge n xs.length with h | h
 ·have hl:((xs.take n).flatMap E.cells).length=n*E.k:=by rw [cN,List.length_take,Nat.min_eq_left (by omega)]
  rw [e,←hl,List.take_left]
 rw [List.take_of_length_le h,List.take_of_length_le (by rw [cN];exact Nat.mul_le_mul_right _ h)]
theorem ol (E:Enc α) (xs:List α) (n:Nat):(xs.drop n).flatMap E.cells=(xs.flatMap E.cells).drop (n*E.k):=by
 have e:xs.flatMap E.cells=(xs.take n).flatMap E.cells ++ (xs.drop n).flatMap E.cells:=by rw [←List.flatMap_append,List.take_append_drop]
 rcases Nat.lt_or_ge n xs.length with h | h
 ·have hl:((xs.take n).flatMap E.cells).length=n*E.k:=by rw [cN,List.length_take,Nat.min_eq_left (by omega)]
  rw [e,←hl,List.drop_left]
 rw [List.drop_eq_nil_of_le h,List.drop_eq_nil_of_le (by rw [cN];exact Nat.mul_le_mul_right _ h)]
 rfl
theorem jV (E:Enc α) (xs:List α):∀ u ∈ xs.flatMap E.cells,u.oneCell'=true:=by
 intro u hu
 obtain ⟨x,-,h⟩:=List.mem_flatMap.1 hu
 exact E.one x u h
def Own (E:Enc α) (w:World) (base:Nat) (v:Value) (xs:List α):Prop:=w.ownsRow base E.t E.k v xs.length (xs.flatMap E.cells)
variable {E:Enc α} {w w':World} {base base':Nat} {v:Value} {xs:List α}
theorem Own.nil (E:Enc α) (w:World) (base:Nat):Own E w base (.slice none 0 0) ([]:List α):=World.ownsRow_nil w base _ _
theorem Own.tg (E:Enc α) (w:World) (base:Nat) (hb:base≤w.heap.size):Own E (w.alloc (.cells #[] E.t)) base (.slice (some ⟨w.heap.size,0,none⟩) 0 0) ([]:List α):=
 World.ownsRow_made w #[] 0 hb (by unfold maxLen;omega) (by simp)
theorem Own.kept {r:Option Nat} (h:Own E w base v xs) (hg:w.grownBy w' r) (hr:∀ g,r=some g→v.ownBlock≠some g):Own E w' base v xs:=by
 refine World.ownsRow.kept h hg ?_
 cases r with
 | none=>
  cases hv:v.ownBlock
  ·exact Or.inl rfl
  exact Or.inr (by simp)
 | some g=>exact Or.inr (hr g rfl)
theorem Own.below (h:Own E w base v xs) (hb:Below w.heap.size w w'):Own E w' base v xs:=h.kept (cK hb none) fun g hg=>by cases hg
theorem Own.down (h:Own E w base v xs) (hb:base'≤base):Own E w base' v xs:=by
 obtain ⟨h1,h2⟩:=h
 refine ⟨h1,?_⟩
 rcases h2 with h2 | ⟨g,cap,cur,hv,hg,hh,r⟩
 ·exact Or.inl h2
 exact Or.inr ⟨g,cap,cur,hv,Nat.le_trans hb hg,hh,r⟩
theorem Own.alloc (h:Own E w base v xs) (o:Obj):Own E (w.alloc o) base v xs:=World.ownsRow.alloc h o
theorem Own.lt (h:Own E w base v xs):∀ g,v.ownBlock=some g→base≤g∧g<w.heap.size:=World.ownsRow.lt h
theorem Own.forms (h:Own E w base v xs):(v=.slice none 0 0∧xs=[])∨∃ g cap,v=.slice (some ⟨g,0,none⟩) xs.length cap∧base≤g∧g<w.heap.size∧xs.length≤cap∧cap≤9223372036854775807:=by
 rcases h.2 with ⟨e,h2⟩ | ⟨g,cap',cur,e,hg,hh,h3,h4,-⟩
 ·exact Or.inl ⟨e,List.eq_nil_of_length_eq_zero h2⟩
 exact Or.inr ⟨g,cap',e,hg,(Array.getElem?_eq_some_iff.1 hh).1,h3,by unfold maxLen at h4;omega⟩
def Seen (E:Enc α) (w:World) (hi:Nat) (v:Value) (xs:List α):Prop:=
 ∃ (a:Option Addr) (cap:Nat),v=.slice a xs.length cap∧xs.length≤cap∧cap≤9223372036854775807∧
  ∀ j,j<xs.length→∃ g x,a=some ⟨g,0,none⟩∧g<hi∧Hid (xs[j]?=some x)∧∀ i u,(E.cells x)[i]?=some u→w.cell? ⟨g,j*E.k+i,none⟩=some u
theorem Seen.below {hi:Nat} (h:Seen E w hi v xs) (hb:Below hi w w'):Seen E w' hi v xs:=by
 obtain ⟨a,cap,h1,h2,h2',h3⟩:=h
 refine ⟨a,cap,h1,h2,h2',fun k hk=>?_⟩
 obtain ⟨g,x,e1,e2,e3,e4⟩:=h3 k hk
 exact ⟨g,x,e1,e2,e3,fun i u hu=>(hb.cell (p:=⟨g,k*E.k+i,none⟩) e2).trans (e4 i u hu)⟩
theorem Own.seen (h:Own E w base v xs):Seen E w w.heap.size v xs:=by
 have hf:=h.forms
 obtain ⟨h1,h2⟩:=h
 rcases h2 with ⟨rfl,hn⟩ | ⟨g,cap,cur,rfl,hg,hh,hc,hm,hs,ht⟩
 ·exact ⟨none,0,by rw [hn],by omega,by omega,fun k hk=>by omega⟩
 refine ⟨some ⟨g,0,none⟩,cap,rfl,hc,by unfold maxLen at hm;omega,fun j hj=>⟨g,xs[j],rfl,(Array.getElem?_eq_some_iff.1 hh).1,List.getElem?_eq_getElem hj,fun i u hu=>?_⟩⟩
 rw [cell_of_row w g _ cur _ (0,0) hh]
 have hi:i<E.k:=by rw [←E.len xs[j]];exact (List.getElem?_eq_some_iff.1 hu).1
 have e:=flat_get E xs j i _ (List.getElem?_eq_getElem hj) hi
 rw [hu,←ht,List.getElem?_take] at e
 split at e
 ·simpa using e
 cases e
def From (E:Enc α) (w:World) (A:Option Addr) (ys:List α):Prop:=∀ j u,(ys.flatMap E.cells)[j]?=some u→∃ ad,A=some ad∧w.cell? (ad.add j)=some u
theorem From.nil (E:Enc α) (w:World) (A:Option Addr):From E w A ([]:List α):=fun j u h=>by simp at h
theorem From.lit (E:Enc α) (w:World) (x:α) (H:Nat) (hH:w.heap.size=H):From E (w.alloc (.cells (E.cells x).toArray E.t)) (some ⟨H,0,none⟩) [x]:=by
 intro j u h
 subst hH
 have hadd:∀ b i:Nat,(⟨b,0,none⟩:Addr).add i=⟨b,i,none⟩:=fun b i=>by unfold Addr.add;split <;> simp_all
 refine ⟨_,rfl,?_⟩
 rw [hadd,World.cell?_alloc_at _ _ _ _ rfl]
 simpa using h
theorem Own.cellAt {g n cap:Nat} (hn:n=xs.length) (h:Own E w base (.slice (some ⟨g,0,none⟩) n cap) xs) (j:Nat) (u:Value) (hu:(xs.flatMap E.cells)[j]?=some u):w.cell? ⟨g,j,none⟩=some u∧w.frozen? ⟨g,j,none⟩=false:=by
 subst hn
 have hj:=(List.getElem?_eq_some_iff.1 hu).1
 rw [cN] at hj
 exact ⟨(World.ownsRow.cellAt h j hj).trans hu,World.ownsRow.frozenAt h j⟩
theorem Own.tE {g n cap:Nat} (hn:n=xs.length) (h:Own E w base (.slice (some ⟨g,0,none⟩) n cap) xs) {hi:Nat} (hhi:g<hi) (hb:Below hi w w') (m:Nat):From E w' (some ⟨g,0,none⟩) (xs.take m):=by
 intro j u hu
 have hadd:∀ b i:Nat,(⟨b,0,none⟩:Addr).add i=⟨b,i,none⟩:=fun b i=>by unfold Addr.add;split <;> simp_all
 rw [gR,List.getElem?_take] at hu
 split at hu
 ·exact ⟨_,rfl,by rw [hadd];exact (hb.cell (p:=⟨g,j,none⟩) hhi).trans (h.cellAt hn j u hu).1⟩
 cases hu
theorem gH (base g cap n:Nat) (t:TypeId) (k:Nat):∀ (l:List Value) (o:Nat) (w:World) (zs:List Value),w.ownsRow base t k (.slice (some ⟨g,0,none⟩) n cap) n zs→
  ∃ ys,(w.setCells g o l).ownsRow base t k (.slice (some ⟨g,0,none⟩) n cap) n ys∧ys.take o=zs.take o∧w.grownBy (w.setCells g o l) (some g)
 | [],o,w,zs,h=>⟨zs,h,rfl,gD _ _⟩
 | u :: l,o,w,zs,h=>by
  have h1:=World.ownsRow.stored h o u
  obtain ⟨ys,k1,k2,k3⟩:=gH base g cap n t k l (o+1) _ _ h1.1
  refine ⟨ys,k1,?_,dV h1.2 k3⟩
  have:=congrArg (List.take o) k2
  rw [List.take_take,List.take_take,Nat.min_eq_left (by omega)] at this
  rw [this,List.take_set,List.set_eq_of_length_le (by rw [List.length_take];omega)]
theorem sf {t:TypeId} {k g n cap i:Nat} {zs:List Value} (h:w.ownsRow base t k (.slice (some ⟨g,0,none⟩) n cap) n zs) (hi:i≤n):w.ownsRow base t k (.slice (some ⟨g,0,none⟩) i cap) i (zs.take (i*k)):=by
 obtain ⟨h1,h2⟩:=h
 have hik:i*k≤n*k:=Nat.mul_le_mul_right _ hi
 rcases h2 with ⟨e,-⟩ | ⟨g',cap',cur,e,hg,hh,hc,hm,hs,ht⟩
 ·cases e
 injection e with e1 e2 e3
 simp only [Option.some.injEq,Addr.mk.injEq,and_true] at e1
 subst e1 e3
 refine ⟨by rw [List.length_take];omega,Or.inr ⟨g,cap,cur,rfl,hg,hh,by omega,hm,hs,?_⟩⟩
 rw [←ht,List.take_take,Nat.min_eq_left hik]
theorem Own.cut {g n cap i:Nat} {ys:List α} (hn:n=xs.length) (h:Own E w base (.slice (some ⟨g,0,none⟩) n cap) xs) (hi:i≤n) (l:List Value) (hy:ys=xs.take i) (o:Nat) (ho:o=i*E.k) :
  Own E (w.setCells g o l) base (.slice (some ⟨g,0,none⟩) i cap) ys∧w.grownBy (w.setCells g o l) (some g):=by
 subst hn hy ho
 obtain ⟨rs,k1,k2,k3⟩:=gH base g cap xs.length E.t E.k l (i*E.k) w _ h
 refine ⟨?_,k3⟩
 have hl:(xs.take i).length=i:=by rw [List.length_take];omega
 have:=sf k1 hi
 rw [k2,←gR] at this
 unfold Own
 rw [hl]
 exact this
theorem ij (E:Enc α):∀ (xs:List α) (j:Nat) (x:α),j<xs.length→∀ t,((xs.set j x).flatMap E.cells)[t]?=if j*E.k≤t∧t<j*E.k+E.k then (E.cells x)[t - j*E.k]? else (xs.flatMap E.cells)[t]?
 | [],j,x,h,_=>by simp at h
 | y :: ys,0,x,h,t=>by
  rw [List.set_cons_zero,List.flatMap_cons,List.flatMap_cons]
  by_cases ht:t<E.k
  ·rw [List.getElem?_append_left (by rw [E.len];exact ht),if_pos ⟨by omega,by omega⟩]
   simp
  rw [List.getElem?_append_right (by rw [E.len];omega),if_neg (by omega),List.getElem?_append_right (by rw [E.len];omega),E.len,E.len]
 | y :: ys,j+1,x,h,t=>by
  have ih:=ij E ys j x (by simpa using h)
  rw [List.set_cons_succ,List.flatMap_cons,List.flatMap_cons]
  have e:(j+1)*E.k=j*E.k+E.k:=by rw [Nat.add_mul];omega
  by_cases ht:t<E.k
  ·rw [List.getElem?_append_left (by rw [E.len];exact ht),List.getElem?_append_left (by rw [E.len];exact ht),if_neg (by omega)]
  rw [List.getElem?_append_right (by rw [E.len];omega),List.getElem?_append_right (by rw [E.len];omega),E.len,ih (t - E.k),e]
  by_cases hc:j*E.k≤t - E.k∧t - E.k<j*E.k+E.k
  ·rw [if_pos hc,if_pos (by omega)]
   congr 1
   omega
  rw [if_neg hc,if_neg (by omega)]
structure Fits (P:Program) (E:Enc α) (ts:TypeId):Prop where
 under:P.underlying ts=some (.slice E.t)
 info:∃ i z,P.info? E.t=some i∧i.zero=some z∧i.size=E.k∧i.bytes≤1000∧z.cells.size=E.k
theorem rM {P:Program} {ts:TypeId} (F:Fits P E ts) {W:World} (ty:TypeId) (ys:List α) (A:Option Addr) (c:Nat)
  (hr:From E w A ys) (hown:Own E w base v xs) (hW:Below base W w) (hB:base≤w.heap.size) (hl:xs.length+ys.length≤100000000000) :
  ∃ v' w',(Builtin.append_ #[ts,ts] ty #[v,.slice A ys.length c]).run P w=.ok v' w'∧Own E w' base v' (xs ++ ys)∧Below base W w':=by
 obtain ⟨i,z,hi,hz,hs,hby,hzc⟩:=F.info
 cases A with
 | none=>
  have he:ys=[]:=by
   cases ys with
   | nil=>rfl
   | cons y ys=>
   have hp:=E.pos
   have hl:=E.len y
   obtain ⟨ad,h,-⟩:=hr 0 ((E.cells y)[0]'(by omega)) (by rw [List.flatMap_cons,List.getElem?_append_left (by omega)];exact List.getElem?_eq_getElem _)
   cases h
  subst he
  exact ⟨v,w,d7 w base _ _ _ i E.k F.under hi _ _ _ hown c,by simpa using hown,hW⟩
 | some ad=>
 have hbb:(xs.length+ys.length)*i.bytes≤140737488355328:=Nat.le_trans (Nat.mul_le_mul hl hby) (by omega)
 obtain ⟨v',w',h1,h2,h3,-,-⟩:=run_append_own_at (P:=P) w base ts ty E.t i z E.k i.bytes F.under hi hz hs rfl hzc E.pos v xs.length (xs.flatMap E.cells) hown ad ys.length c (ys.flatMap E.cells)
  (cN E ys) (fun j u hu=>by
   obtain ⟨ad',h1,h2⟩:=hr j u hu
   obtain rfl:=Option.some.inj h1
   exact h2) (jV E ys) (by unfold maxLen;omega) hbb hB
 refine ⟨v',w',h1,?_,hW.grown h3 hB fun k hk=>(Own.lt hown k hk).1⟩
 unfold Own
 rw [List.flatMap_append,List.length_append]
 exact h2
theorem push {P:Program} {ts:TypeId} (F:Fits P E ts) {ops:Array Oper} {rest:List Oper} {o:Oper} {a:Act} {Q:Exit→Act→World→Prop} {W:World} (base:Nat) (ys xs:List α) (v:Value) (A:Option Addr) (m c:Nat) (hm:ys.length=m) (hgd:o.guard=none) (s x:Operand)
  (ho:o.op=.call { callee:=.builtin .append,args:=#[s,x],argTypes:=#[ts,ts] }) (hs:a.eval s=v) (hx:a.eval x=.slice A m c)
  (hr:From E w A ys) (hown:Own E w base v xs) (hW:Below base W w) (hB:base≤w.heap.size) (hl:xs.length+ys.length≤100000000000)
  (h:∀ v' w',Own E w' base v' (xs ++ ys)→Below base W w'→wpList P ops Q rest (a.put o.dst v') w') :
  wpList P ops Q (o :: rest) a w:=by
 subst hm
 refine wpList_plain hgd fun _ hK=>?_
 obtain ⟨v',w',h1,h2,h3⟩:=rM F (w:=w) (W:=W) (base:=base) o.type ys A c hr hown hW hB hl
 unfold Oper.wp execOp
 simp only [ho,resolve,invoke,builtin,Sem.run_bind,Sem.run_pure,Result.andThen_ok,List.map_toArray,List.map_cons,List.map_nil,hs,hx,h1]
 exact hK _ _ (h v' w' h2 h3)
end Rw
end
section
namespace M
theorem jn {q d:Int} (hq:fX q) (h2:2≤d) (hd:q % d=0):d=q:=by
 have hdvd:d ∣ q:=Int.dvd_of_emod_eq_zero hd
 obtain ⟨c,hc⟩:=hdvd
 have hq2:=hq.1
 have hc1:1≤c:=by
  rcases Int.lt_or_le c 1 with h | h
  ·have:d*c≤0:=Int.mul_nonpos_of_nonneg_of_nonpos (by omega) (by omega)
   omega
  exact h
 rcases Int.lt_or_le c 2 with h | h
 ·have:c=1:=by omega
  rw [this] at hc
  omega
 exfalso
 rcases Int.lt_or_le c d with h' | h'
 ·refine hq.2 c h ?_ ?_
  ·rw [hc];exact Int.mul_le_mul_of_nonneg_right (by omega) (by omega)
  rw [hc];exact Int.mul_emod_left d c
 refine hq.2 d h2 ?_ hd
 rw [hc];exact Int.mul_le_mul_of_nonneg_left h' (by omega)
theorem pI {q x:Int} (hq:fX q) (h:¬ x % q=0):Int.gcd q x=1:=by
 have hg:(Int.gcd q x:Int) ∣ q:=Int.gcd_dvd_left ..
 have hg2:(Int.gcd q x:Int) ∣ x:=Int.gcd_dvd_right ..
 have hq2:=hq.1
 have hpos:0<Int.gcd q x:=Int.gcd_pos_of_ne_zero_left _ (by omega)
 rcases Nat.lt_or_ge (Int.gcd q x) 2 with k | k
 ·omega
 exfalso
 have:=jn hq (d:=(Int.gcd q x:Int)) (by omega) (Int.emod_eq_zero_of_dvd hg)
 rw [this] at hg2
 exact h (Int.emod_eq_zero_of_dvd hg2)
theorem pK {q x y:Int} (hq:fX q) (h:x*y % q=0) (hx:¬ x % q=0):y % q=0:=by
 have h1:=Int.dvd_gcd_mul_iff_dvd_mul.2 (Int.dvd_of_emod_eq_zero h)
 rw [pI hq hx] at h1
 exact Int.emod_eq_zero_of_dvd (by simpa using h1)
noncomputable def pF (n p:Int):Bool:=prime p && (n % p == 0)
noncomputable def lh (n:Int):List Int:=sel (pF n) 0 (n.natAbs+1)
theorem l9 {f:Int→Bool} {k m:Nat} (h:∀ x:Int,(k:Int)≤x→x<m→f x=false) (hkm:k≤m):sel f 0 m=sel f 0 k:=by
 induction m with
 | zero=>
      obtain rfl:k=0:=by omega
      rfl
 | succ m ih=>
 rcases Nat.lt_or_ge k (m+1) with q | q
 ·rw [tr (by rw [Int.zero_add];exact h m (by omega) (by omega)),ih (fun x h1 h2=>h x h1 (by omega)) (by omega)]
 obtain rfl:k=m+1:=by omega
 rfl
structure oR (N n p:Int) (l:List Int):Prop where
 n1:1≤n
 p2:2≤p
 nN:n≤N
 pn:n=1∨p≤n
 pN:p≤N+1
 dvd:N % n=0
 low:∀ d:Int,2≤d→d<p→¬ n % d=0
 big:∀ q:Int,fX q→p≤q→N % q=0→n % q=0
 out:l=sel (pF N) 0 p.toNat
theorem oR.start {N:Int} (h:1≤N):oR N N 2 [] where
 n1:=h
 p2:=by omega
 nN:=by omega
 pn:=by omega
 pN:=by omega
 dvd:=Int.emod_self
 low:=fun d h1 h2=>by omega
 big:=fun q _ _ h=>h
 out:=by
  have:sel (pF N) 0 2=sel (pF N) 0 0:=l9 (fun x h1 h2=>by
   unfold pF
   rw [pL.2 (fun h=>by have:=h.1;omega)]
   rfl) (by omega)
  exact this.symm
theorem oR.prime {N n p:Int} {l:List Int} (h:oR N n p l) (hn:1<n) (hp:n<p*p):fX n:=by
 refine ⟨by omega,fun d h2 hd=>h.low d h2 ?_⟩
 exact uc (by have:=h.p2;omega) (by omega)
theorem tW {a b c:Int} (h:c % b=0) (k:b % a=0):c % a=0:=
 Int.emod_eq_zero_of_dvd (Int.dvd_trans (Int.dvd_of_emod_eq_zero k) (Int.dvd_of_emod_eq_zero h))
structure PIn (n p n':Int):Prop where
 n1:1≤n'
 nn:n'≤n
 dvd:n % n'=0
 big:∀ q:Int,fX q→p<q→n % q=0→n' % q=0
theorem PIn.start {n p:Int} (h:1≤n):PIn n p n:=⟨h,by omega,Int.emod_self,fun _ _ _ h=>h⟩
theorem jX {n p:Int} (hp:1≤p) (h:n % p=0):n / p*p=n:=Int.ediv_mul_cancel (Int.dvd_of_emod_eq_zero h)
theorem tV {n p:Int} (hp:2≤p) (hn:1≤n):n / p<n:=by
 have:=Int.ediv_lt_of_lt_mul (a:=n) (b:=n) (c:=p) (by omega) (by
  have:=Int.mul_le_mul_of_nonneg_left hp (show 0≤n by omega)
  omega)
 exact this
theorem PIn.step {n p n':Int} (h:PIn n p n') (hp:fX p) (hd:n' % p=0):PIn n p (n' / p):=by
 have hp2:=hp.1
 have he:=jX (by omega) hd
 have h1:=h.n1
 have hpos:1≤n' / p:=by
  rcases Int.lt_or_le (n' / p) 1 with k | k
  ·have:n' / p*p≤0:=Int.mul_nonpos_of_nonpos_of_nonneg (by omega) (by omega)
   omega
  exact k
 have hlt:=tV hp2 h1
 refine ⟨hpos,by have:=h.nn;omega,tW h.dvd ?_,fun q hq hpq hnq=>?_⟩
 ·exact Int.emod_eq_zero_of_dvd ⟨p,he.symm⟩
 have:=h.big q hq hpq hnq
 refine pK hq (x:=p) ?_ ?_
 ·rw [Int.mul_comm,he];exact this
 intro hz
 have:=jn hp hq.1 hz
 omega
theorem oR.done {N n p:Int} {l:List Int} (h:oR N n p l) (hn:n≤1):l=lh N:=by
 have h1:=h.n1
 have hn:n=1:=by omega
 have hN:=h.nN
 rw [h.out]
 unfold lh
 have e:((N.natAbs:Nat):Int)=N:=by omega
 refine (l9 (fun x h2 h3=>?_) (by have:=h.pN;omega)).symm
 unfold pF
 cases hp:M.prime x
 ·rfl
 cases hd:(N % x == 0)
 ·rfl
 have hx:=pJ.1 hp
 have:=h.big x hx (by have:=h.p2;omega) (by simpa using hd)
 rw [hn] at this
 have:=hx.1
 have:(1:Int) % x=1:=Int.emod_eq_of_lt (by omega) (by omega)
 omega
theorem rg {a p:Int} (hp:2≤p) (ha:a≠0) (h:a % p=0):(a / p).natAbs<a.natAbs∧a / p≠0:=by
 have he:=jX (n:=a) (by omega) h
 have e2:a.natAbs=(a / p).natAbs*p.natAbs:=by rw [←Int.natAbs_mul,he]
 have hp':2≤p.natAbs:=by omega
 have hne:a / p≠0:=by
  intro hz
  rw [hz] at he
  omega
 have:(a / p).natAbs*2≤(a / p).natAbs*p.natAbs:=Nat.mul_le_mul_left _ hp'
 exact ⟨by omega,hne⟩
end M
namespace M
def jp (u4 u6:Int):Nat→Int→Int→Int × Int
 | 0,a,b=>(a,b)
 | f+1,a,b=>if a % u4=0∧b % u6=0∧(a≠0∨b≠0) then jp u4 u6 f (a / u4) (b / u6) else (a,b)
theorem rT {u4 u6:Int} {f:Nat} {a b:Int} (hf:a.natAbs+b.natAbs≤f) (h:a % u4=0) (h':b % u6=0) (hn:a≠0∨b≠0):jp u4 u6 f a b=jp u4 u6 (f - 1) (a / u4) (b / u6):=by
 cases f with
 | zero=>omega
 | succ f=>simp [jp,h,h',hn]
theorem fx {a p:Int} (hp:2≤p) (h:a % p=0):(a / p).natAbs≤a.natAbs∧(a≠0→(a / p).natAbs<a.natAbs∧a / p≠0):=by
 by_cases ha:a=0
 ·subst ha;simp
 have:=rg hp ha h
 exact ⟨by omega,fun _=>this⟩
theorem pV {u4 u6 a b:Int} (h4:2≤u4) (h6:2≤u6) (h:a % u4=0) (h':b % u6=0) (hn:a≠0∨b≠0) :
  (a / u4).natAbs+(b / u6).natAbs<a.natAbs+b.natAbs∧(a / u4≠0∨b / u6≠0):=by
 have h1:=fx h4 h
 have h2:=fx h6 h'
 rcases hn with k | k
 ·have:=h1.2 k
  exact ⟨by omega,Or.inl this.2⟩
 have:=h2.2 k
 exact ⟨by omega,Or.inr this.2⟩
def tw (u4 u6:Int) (x:Int × Int):Int × Int:=jp u4 u6 (x.1.natAbs+x.2.natAbs) x.1 x.2
structure pj (u4 u6:Int) (p:Int × Int) (x y:Int):Prop where
 ne:x≠0∨y≠0
 bx:x.natAbs≤p.1.natAbs
 bY:y.natAbs≤p.2.natAbs
 st:∃ f,x.natAbs+y.natAbs≤f∧jp u4 u6 f x y=tw u4 u6 p
theorem pj.start {u4 u6 x y:Int} {p:Int × Int} (hp:(x,y)=p) (h:x≠0∨y≠0):pj u4 u6 p x y:=by
 subst hp
 exact ⟨h,ul _,ul _,_,ul _,rfl⟩
theorem pj.step {u4 u6 x y:Int} {p:Int × Int} (h4:2≤u4) (h6:2≤u6) (h:pj u4 u6 p x y) (hx:x % u4=0) (hy:y % u6=0):pj u4 u6 p (x / u4) (y / u6):=by
 obtain ⟨f,hf,hs⟩:=h.st
 have hsum:=pV h4 h6 hx hy h.ne
 have h1:=(fx h4 hx).1
 have h2:=(fx h6 hy).1
 refine ⟨hsum.2,Nat.le_trans h1 h.bx,Nat.le_trans h2 h.bY,f - 1,by omega,?_⟩
 rw [←rT hf hx hy h.ne]
 exact hs
end M
namespace M
def eJ (p:Int):Nat→Int
 | 0=>1
 | k+1=>eJ p k*p
end M
namespace M
def cJ (xs:List Int) (n:Int):Nat:=(xs.takeWhile (decide <| ·<n)).length
def put (xs:List Int) (n:Int):List Int:=if xs[cJ xs n]?=some n then xs else xs.take (cJ xs n) ++ [n] ++ xs.drop (cJ xs n)
end M
end
section
open Go.RowKit
theorem jm {w:World} {b1 b2 n1 n2 s1 s2:Nat} {t1 t2:TypeId} {v1 v2:Value} {x1 x2:List Value} (h1:w.ownsRow b1 t1 s1 v1 n1 x1) (h2:w.ownsRow b2 t2 s2 v2 n2 x2) (ht:t1≠t2):∀ g,v2.ownBlock=some g→v1.ownBlock≠some g:=by
 intro g hg hg'
 rcases h1.2 with ⟨rfl,-⟩ | ⟨g1,c1,cur1,rfl,-,hh1,-⟩
 ·cases hg'
 rcases h2.2 with ⟨rfl,-⟩ | ⟨g2,c2,cur2,rfl,-,hh2,-⟩
 ·cases hg
 simp only [Value.ownBlock,Option.some.injEq] at hg hg'
 subst hg hg'
 rw [hh1] at hh2
 injection hh2 with hh2
 injection hh2 with _ ht' _
 exact ht ht'
namespace Rw
variable {α:Type} {E:Enc α} {w w':World} {base:Nat} {v:Value} {xs:List α}
theorem Own.lit1 (E:Enc α) (x:α) (w:World) (base:Nat) (hb:base≤w.heap.size):Own E (w.alloc (.cells (E.cells x).toArray E.t)) base (.slice (some ⟨w.heap.size,0,none⟩) 1 1) [x]:=
 ⟨by simp [E.len],.inr ⟨w.heap.size,1,(E.cells x).toArray,rfl,hb,heap_alloc_new w _,ul 1,by unfold maxLen;omega,by simp [E.len],by simp [E.len,List.take_of_length_le]⟩⟩
theorem pR {P:Program} {ts:TypeId} (F:Fits P E ts) (ty:TypeId) (ys:List α) (ad:Addr) (c:Nat)
  (hr:From E w (some ad) ys) (hown:Own E w base v xs) (hB:base≤w.heap.size) (hl:xs.length+ys.length≤100000000000) :
  ∃ v' w',(Builtin.append_ #[ts,ts] ty #[v,.slice (some ad) ys.length c]).run P w=.ok v' w'∧Own E w' base v' (xs ++ ys)∧w.grownBy w' v.ownBlock∧(v'.ownBlock=v.ownBlock∨v'.ownBlock=some w.heap.size):=by
 obtain ⟨i,z,hi,hz,hs,hby,hzc⟩:=F.info
 have hbb:(xs.length+ys.length)*i.bytes≤140737488355328:=Nat.le_trans (Nat.mul_le_mul hl hby) (by omega)
 obtain ⟨v',w',h1,h2,h3,-,h5⟩:=run_append_own_at (P:=P) w base ts ty E.t i z E.k i.bytes F.under hi hz hs rfl hzc E.pos v xs.length (xs.flatMap E.cells) hown ad ys.length c (ys.flatMap E.cells)
  (cN E ys) (fun j u hu=>by
   obtain ⟨ad',h1,h2⟩:=hr j u hu
   obtain rfl:=Option.some.inj h1
   exact h2) (jV E ys) (by unfold maxLen;omega) hbb hB
 refine ⟨v',w',h1,?_,h3,h5⟩
 unfold Own
 rw [List.flatMap_append,List.length_append]
 exact h2
theorem uX {P:Program} {ts:TypeId} (F:Fits P E ts) {ops:Array Oper} {rest:List Oper} {o:Oper} {a:Act} {Q:Exit→Act→World→Prop} (base:Nat) (ys xs:List α) (v:Value) (ad:Addr) (m c:Nat) (hm:ys.length=m) (hgd:o.guard=none) (s x:Operand)
  (ho:o.op=.call { callee:=.builtin .append,args:=#[s,x],argTypes:=#[ts,ts] }) (hs:a.eval s=v) (hx:a.eval x=.slice (some ad) m c)
  (hr:From E w (some ad) ys) (hown:Own E w base v xs) (hB:base≤w.heap.size) (hl:xs.length+ys.length≤100000000000)
  (h:∀ v' w',Own E w' base v' (xs ++ ys)→w.grownBy w' v.ownBlock→(v'.ownBlock=v.ownBlock∨v'.ownBlock=some w.heap.size)→wpList P ops Q rest (a.put o.dst v') w') :
  wpList P ops Q (o :: rest) a w:=by
 subst hm
 refine wpList_plain hgd fun _ hK=>?_
 obtain ⟨v',w',h1,h2,h3,h4⟩:=pR F (w:=w) (base:=base) o.type ys ad c hr hown hB hl
 unfold Oper.wp execOp
 simp only [ho,resolve,invoke,builtin,Sem.run_bind,Sem.run_pure,Result.andThen_ok,List.map_toArray,List.map_cons,List.map_nil,hs,hx,h1]
 exact hK _ _ (h v' w' h2 h3 h4)
end Rw
theorem aF.cellAt {w:World} {base g n cap:Nat} {xs:List Int} (hn:n=xs.length) (h:aF w base (.slice (some ⟨g,0,none⟩) n cap) xs) {i:Nat} {t:Int} (ht:xs[i]?=some t):w.cell? ⟨g,i,none⟩=some (.int .i64 t):=by
 have hi:=(List.getElem?_eq_some_iff.1 ht).1
 subst hn
 have:=World.ownsRow.cellAt (g:=g) (cap:=cap) (n:=xs.length) h i (by omega)
 rw [this,List.getElem?_map,ht]
 rfl
end
section
open Go.RowKit Go.Shelf
theorem aF.setCells (base g cap n:Nat):∀ (l:List Int) (o:Nat) (w:World) (xs:List Int),n=xs.length→aF w base (.slice (some ⟨g,0,none⟩) n cap) xs→
  ∃ ys,aF (w.setCells g o (l.map (Value.int .i64))) base (.slice (some ⟨g,0,none⟩) n cap) ys∧ys.take o=xs.take o∧ys.length=xs.length∧w.grownBy (w.setCells g o (l.map (Value.int .i64))) (some g)
 | [],o,w,xs,_,h=>⟨xs,h,rfl,rfl,gD _ _⟩
 | x :: l,o,w,xs,hn,h=>by
  have h1:=aF.set (j:=o) hn h x rfl
  obtain ⟨ys,k1,k2,k3,k4⟩:=aF.setCells base g cap n l (o+1) _ (xs.set o x) (by rw [List.length_set];exact hn) h1.1
  refine ⟨ys,k1,?_,by rw [k3,List.length_set],dV h1.2 k4⟩
  have:=congrArg (List.take o) k2
  rw [List.take_take,List.take_take,Nat.min_eq_left (by omega)] at this
  rw [this,List.take_set,List.set_eq_of_length_le (by rw [List.length_take];omega)]
theorem aF.cut {w:World} {base g cap n:Nat} {xs:List Int} (hn:n=xs.length) (h:aF w base (.slice (some ⟨g,0,none⟩) n cap) xs) {i:Nat} (hi:i≤n) {ys:List Int} (hy:ys=xs.take i):aF w base (.slice (some ⟨g,0,none⟩) i cap) ys:=by
 subst hy hn
 obtain ⟨h1,h2⟩:=h
 have hl:(xs.take i).length=i:=by rw [List.length_take];omega
 rcases h2 with ⟨e,-⟩ | ⟨g',cap',cur,e,hg,hh,hc,hm,hs,ht⟩
 ·cases e
 injection e with e1 e2 e3
 simp only [Option.some.injEq,Addr.mk.injEq,and_true] at e1
 subst e1 e3
 refine ⟨by simp,Or.inr ⟨g,cap,cur,by rw [hl],hg,hh,by omega,hm,hs,?_⟩⟩
 have:=congrArg (List.take i) ht
 rw [List.take_take,Nat.min_eq_left (by omega)] at this
 rw [hl,Nat.mul_one,this,List.map_take]
end
section
open Go.RowKit
theorem lK {w:World} {base:Nat} {v:Value} {xs:List Int} (h:aF w base v xs):∃ A cap,v=.slice A xs.length cap∧∀ w',Below w.heap.size w w'→∀ j y,xs[j]?=some y→∃ ad,A=some ad∧w'.cell? (ad.add j)=some (.int .i64 y):=by
 have hadd:∀ b i:Nat,(⟨b,0,none⟩:Addr).add i=⟨b,i,none⟩:=fun b i=>by unfold Addr.add;split <;> simp_all
 obtain ⟨a,cap,rfl,hm,hv⟩:=h.seen
 refine ⟨a,cap,rfl,fun w' hb j y hy=>?_⟩
 obtain ⟨g,x,e1,e2,e3,e4⟩:=hv j (List.getElem?_eq_some_iff.1 hy).1
 obtain rfl:=Option.some.inj (e3.out.symm.trans hy)
 exact ⟨_,e1,by rw [hadd];exact (hb.cell (p:=⟨g,j,none⟩) e2).trans e4⟩
theorem kv (xs:List Int) (v:Value) (w:World) (base:Nat) (hown:aF w base v xs) (hl:xs.length≤1000000000) :
  Calls Tryz.prog 116 #[v] w fun e w'=>∃ v',e=.returned v'∧aF w' w.heap.size v' xs∧Below w.heap.size w w':=by
 rcases hown.forms with ⟨rfl,rfl⟩ | ⟨g,cap,rfl,hg⟩
 ·have he:∀ W:World,(binOp .eql 104 (.slice none 0 0) (.slice none 0 0)).run Tryz.prog W=.ok (.bool true) W:=fun _=>rfl
  go_enter Tryz.func116,Tryz.ntmps116
  go_wp2
  go_ret
  exact ⟨_,rfl,aF.nil _ _,uk _ _⟩
 obtain ⟨A,cap',e,hf⟩:=lK hown
 injection e with e1 e2 e3
 subst e1 e3
 clear e2
 have hf:=uh hf
 have he:∀ W:World,(binOp .eql 104 (.slice (some ⟨g,0,none⟩) xs.length cap) (.slice none 0 0)).run Tryz.prog W=.ok (.bool false) W:=fun _=>rfl
 go_enter Tryz.func116,Tryz.ntmps116
 go_wp2_with (at_builtin;refine li (W:=w) w.heap.size xs [] _ (some ⟨g,0,none⟩) _ _ (by rfl) (by rfl) (.tmp 5) (.tmp 6) (by rfl) (by rfl) (by rfl) (hf.out _ (by repeat (first | exact uk _ _ | refine aP ?_ _ | refine aS ?_ (by assumption) | refine Below.drew ?_ | refine uj ?_ (by first | exact ul _ | exact Nat.le_add_right _ _ | (simp <;> omega)) _ | refine aK ?_ _))) (aF.tg _ _ (ul _)) (by repeat (first | exact uk _ _ | refine aP ?_ _ | refine aS ?_ (by assumption) | refine Below.drew ?_ | refine uj ?_ (by first | exact ul _ | exact Nat.le_add_right _ _ | (simp <;> omega)) _ | refine aK ?_ _)) (by simp) (by simp;omega) ?_;rintro v1 w1 hown1 hb1)
 go_ret
 exact ⟨_,rfl,hown1,hb1⟩
namespace Gr
variable {w0 w w':World} {r:Option Nat}
theorem set {g:Nat} (h:w0.grownBy w (some g)) (o:Nat) (v:Value):w0.grownBy (w.setCell ⟨g,o,none⟩ v) (some g):=by
 refine ⟨h.os,h.tape,h.output,by simpa [World.setCell] using h.size,fun i hi hne=>?_⟩
 exact (Below.heap_setCell _ _ _ _ (by rintro rfl;exact hne rfl)).trans (h.block i hi hne)
theorem rO (h:w0.grownBy w r) {p:Addr} (hp:w0.heap.size≤p.block) (v:Value):w0.grownBy (w.setCell p v) r:=by
 refine ⟨h.os,h.tape,h.output,by simpa [World.setCell] using h.size,fun i hi hne=>?_⟩
 exact (Below.heap_setCell _ _ _ _ (by omega)).trans (h.block i hi hne)
theorem frozen (hg:w.grownBy w' r) {a:Addr} (hl:a.block<w.heap.size) (hne:some a.block≠r):w'.frozen? a=w.frozen? a:=
 World.frozen?_of_block (hg.block _ hl hne)
theorem drew (h:w0.grownBy w r):w0.grownBy w.drew r:=qU h 1
theorem below {B:Nat} (h:w0.grownBy w r) (k:Below B w w') (hB:w.heap.size≤B):w0.grownBy w' r:=dV h (cK (k.mono hB) r)
theorem alloc (h:w0.grownBy w r) (o:Obj):w0.grownBy (w.alloc o) r:=dV h (World.grownBy_alloc w o r)
theorem f5 {g b o:Nat} {v:Value} (hg:w.grownBy w' (some g)) (h:w.cell? ⟨b,o,none⟩=some v) (hn:b≠g):w'.cell? ⟨b,o,none⟩=some v:=
 hg.cell h (by simpa using hn)
theorem oo {g b o:Nat} (hg:w.grownBy w' (some g)) (hs:b<w.heap.size) (h:w.frozen? ⟨b,o,none⟩=false) (hn:b≠g):w'.frozen? ⟨b,o,none⟩=false:=
 (frozen hg hs (by simpa using hn)).trans h
theorem jI {n:Nat} (hg:w.grownBy w' r) (h:n<w.heap.size):n<w'.heap.size:=Nat.lt_of_lt_of_le h hg.size
theorem bM {W:World} {o o':Obj} {p:Addr} {v:Value} (h:(W.alloc o).cell? p=some v) (hp:p.block=W.heap.size→False):(W.alloc o').cell? p=some v:=by
 have hb:p.block<W.heap.size:=by
  have h1:=World.block_lt_of_cell? (W.alloc o) _ h
  rw [ui] at h1
  rcases Nat.lt_or_ge p.block W.heap.size with h2 | h2
  ·exact h2
  exact (hp (by omega)).elim
 have e1:=(Below.alloc (uk W.heap.size W) (ul _) o).cell (p:=p) hb
 have e2:=(Below.alloc (uk W.heap.size W) (ul _) o').cell (p:=p) hb
 rw [e2,←e1,h]
theorem uP {W:World} {p q:Addr} {u v:Value} (h:W.cell? p=some v) (hp:p.block=q.block→False):(W.setCell q u).cell? p=some v:=
 (World.cell?_of_block (w:=W) (Below.heap_setCell _ _ _ _ hp)).trans h
theorem co {W:World} {p q q':Addr} {u u' v:Value} (h:W.cell? p=some v) (hp:p.block=q.block→False) (hp':p.block=q'.block→False):((W.setCell q u).setCell q' u').cell? p=some v:=uP (uP h hp) hp'
theorem aw {W:World} {o:Obj} {p:Addr} {v:Value} (h:W.cell? p=some v):(W.alloc o).cell? p=some v:=
 ((Below.alloc (uk W.heap.size W) (ul _) o).cell (World.block_lt_of_cell? W _ h)).trans h
end Gr
structure Zb (w:World) (b:Nat):Prop where
 c0:w.cell? ⟨b,0,none⟩=some (.int .i64 0)
 c1:w.cell? ⟨b,1,none⟩=some (.int .i64 0)
 f0:w.frozen? ⟨b,0,none⟩=false
 f1:w.frozen? ⟨b,1,none⟩=false
 size:b<w.heap.size
theorem Zb.new (Y:World) (T:TypeId):Zb (Y.alloc (.cells #[.int .i64 0,.int .i64 0] T)) Y.heap.size:=
 ⟨by rw [World.cell?_alloc_at _ _ _ _ rfl];rfl,by rw [World.cell?_alloc_at _ _ _ _ rfl];rfl,by simp [go_sem],by simp [go_sem],by rw [ui];omega⟩
theorem Zb.keep {w w':World} {b:Nat} (h:Zb w b) (hb:Below w.heap.size w w'):Zb w' b:=
 ⟨(hb.cell (p:=⟨b,0,none⟩) h.size).trans h.c0,(hb.cell (p:=⟨b,1,none⟩) h.size).trans h.c1,(hb.frozen (p:=⟨b,0,none⟩) h.size).trans h.f0,(hb.frozen (p:=⟨b,1,none⟩) h.size).trans h.f1,Nat.lt_of_lt_of_le h.size hb.size⟩
theorem Zb.tA {w w':World} {b g:Nat} (h:Zb w b) (hg:w.grownBy w' (some g)) (hn:b≠g):Zb w' b:=
 ⟨Gr.f5 hg h.c0 hn,Gr.f5 hg h.c1 hn,Gr.oo hg h.size h.f0 hn,Gr.oo hg h.size h.f1 hn,Gr.jI hg h.size⟩
def nJ (w:World) (B:Nat) (v:Value) (n:Nat):Prop:=
 ∃ (A:Option Addr) (cap:Nat),v=.slice A n cap∧(n:Int)≤9223372036854775807∧∀ j,j<n→∃ (g o:Nat) (b:Int),A=some ⟨g,o,none⟩∧g<B∧w.cell? ⟨g,o+j,none⟩=some (.int .u8 b)∧0≤b∧b≤255
structure Cur (w:World) (g B:Nat) (v:Value) (n k:Nat):Prop where
 bytes:nJ w B v n
 lt:B≤g
 c0:w.cell? ⟨g,0,none⟩=some v
 c1:w.cell? ⟨g,1,none⟩=some (.int .i64 k)
 c2:∃ s:Int,w.cell? ⟨g,2,none⟩=some (.int .u64 s)
 f1:w.frozen? ⟨g,1,none⟩=false
 f2:w.frozen? ⟨g,2,none⟩=false
 size:g<w.heap.size
theorem nJ.keep {w w':World} {B g n:Nat} {v:Value} (h:nJ w B v n) (hg:w.grownBy w' (some g)) (hB:B≤g):nJ w' B v n:=by
 obtain ⟨A,cap,e,hn,hb⟩:=h
 refine ⟨A,cap,e,hn,fun j hj=>?_⟩
 obtain ⟨gb,ob,b,e,hgb,hc,h1,h2⟩:=hb j hj
 exact ⟨gb,ob,b,e,hgb,Gr.f5 hg hc (by omega),h1,h2⟩
def er (w:World) (g B:Nat) (v:Value) (n K:Nat):Prop:=∃ k,k≤K∧Cur w g B v n k
theorem er.size {w:World} {g B n K:Nat} {v:Value} (h:er w g B v n K):g<w.heap.size:=h.elim fun _ h=>h.2.size
theorem er.keep {w w':World} {g B n K:Nat} {v:Value} (h:er w g B v n K) (hb:Below w.heap.size w w'):er w' g B v n K:=by
 obtain ⟨k,hk,h⟩:=h
 have hg:=cK hb (some (w.heap.size+g+1))
 obtain ⟨s,hs⟩:=h.c2
 have hl:=h.size
 have hlt:=h.lt
 refine ⟨k,hk,h.bytes.keep hg (by omega),h.lt,Gr.f5 hg h.c0 (by omega),Gr.f5 hg h.c1 (by omega),⟨s,Gr.f5 hg hs (by omega)⟩,Gr.oo hg h.size h.f1 (by omega),Gr.oo hg h.size h.f2 (by omega),Gr.jI hg h.size⟩
theorem er.alloc {w:World} {g B n K:Nat} {v:Value} (h:er w g B v n K) (o:Obj):er (w.alloc o) g B v n K:=h.keep ((uk _ _).alloc (ul _) o)
theorem er.mono {w:World} {g B n K K':Nat} {v:Value} (h:er w g B v n K) (hK:K≤K'):er w g B v n K':=by
 obtain ⟨k,hk,h⟩:=h
 exact ⟨k,by omega,h⟩
structure Box (w:World) (b:Nat) (m n:Int):Prop where
 c0:w.cell? ⟨b,0,none⟩=some (.int .i64 m)
 c1:w.cell? ⟨b,1,none⟩=some (.int .i64 n)
 f0:w.frozen? ⟨b,0,none⟩=false
 f1:w.frozen? ⟨b,1,none⟩=false
 size:b<w.heap.size
theorem Box.keepR {w w':World} {b:Nat} {m n:Int} {r:Option Nat} (h:Box w b m n) (hg:w.grownBy w' r) (hn:some b≠r):Box w' b m n:=
 ⟨hg.cell h.c0 hn,hg.cell h.c1 hn,(Gr.frozen hg h.size hn).trans h.f0,(Gr.frozen hg h.size hn).trans h.f1,Gr.jI hg h.size⟩
theorem Box.tA {w w':World} {b g:Nat} {m n:Int} (h:Box w b m n) (hg:w.grownBy w' (some g)) (hn:b≠g):Box w' b m n:=h.keepR hg (by simpa using hn)
theorem Box.keep {w w':World} {b:Nat} {m n:Int} (h:Box w b m n) (hb:Below w.heap.size w w'):Box w' b m n:=h.keepR (cK hb none) (by simp)
theorem Box.alloc {w:World} {b:Nat} {m n:Int} (h:Box w b m n) (o:Obj):Box (w.alloc o) b m n:=h.keep ((uk _ _).alloc (ul _) o)
theorem Box.drew {w:World} {b:Nat} {m n:Int} (h:Box w b m n):Box w.drew b m n:=⟨h.c0,h.c1,h.f0,h.f1,h.size⟩
theorem Box.new (w:World) (m n:Int) (T:TypeId):Box (w.alloc (.cells #[.int .i64 m,.int .i64 n] T)) w.heap.size m n:=
 ⟨by rw [World.cell?_alloc_at _ _ _ _ rfl];rfl,by rw [World.cell?_alloc_at _ _ _ _ rfl];rfl,by simp [go_sem],by simp [go_sem],by rw [ui];omega⟩
theorem Box.store {w:World} {b:Nat} {m n:Int} (h:Box w b m n) (x y:Int):Box ((w.setCell ⟨b,0,none⟩ (.int .i64 x)).setCell ⟨b,1,none⟩ (.int .i64 y)) b x y:=by
 obtain ⟨h1,h2,h3,h4,h5⟩:=h
 exact ⟨by simp [go_sem, *],by simp [go_sem, *],by simp [go_sem, *],by simp [go_sem, *],by simp [go_sem, *]⟩
theorem cP (w:World) (c:Nat) (x y:Value):w.grownBy ((w.setCell ⟨c,0,none⟩ x).setCell ⟨c,1,none⟩ y) (some c):=Gr.set (Gr.set (gD w (some c)) 0 x) 1 y
theorem Box.other {w:World} {b c:Nat} {m n:Int} (h:Box w b m n) (hn:b≠c) (x y:Value):Box ((w.setCell ⟨c,0,none⟩ x).setCell ⟨c,1,none⟩ y) b m n:=h.tA (cP w c x y) hn
theorem er.keepR {w w':World} {g B n K c:Nat} {v:Value} (h:er w g B v n K) (hg:w.grownBy w' (some c)) (hc:g≠c) (hB:B≤c):er w' g B v n K:=by
 obtain ⟨k,hk,h⟩:=h
 obtain ⟨s,hs⟩:=h.c2
 exact ⟨k,hk,h.bytes.keep hg hB,h.lt,Gr.f5 hg h.c0 hc,Gr.f5 hg h.c1 hc,⟨s,Gr.f5 hg hs hc⟩,Gr.oo hg h.size h.f1 hc,Gr.oo hg h.size h.f2 hc,Gr.jI hg h.size⟩
structure St (w W:World) (g B:Nat) (v:Value) (n K:Nat):Prop where
 cur:er W g B v n K
 gr:w.grownBy W (some g)
 lt:B≤g
theorem St.start {w:World} {g B n K:Nat} {v:Value} (h:er w g B v n K):St w w g B v n K:=⟨h,gD _ _,h.elim fun _ h=>h.2.lt⟩
theorem St.call {w W W':World} {g B n K K':Nat} {v:Value} (h:St w W g B v n K) (hc:er W' g B v n K') (hg:W.grownBy W' (some g)):St w W' g B v n K':=⟨hc,dV h.gr hg,h.lt⟩
theorem St.keep {w W W':World} {g B n K:Nat} {v:Value} (h:St w W g B v n K) (hb:Below W.heap.size W W'):St w W' g B v n K:=⟨h.cur.keep hb,dV h.gr (cK hb _),h.lt⟩
theorem St.alloc {w W:World} {g B n K:Nat} {v:Value} (h:St w W g B v n K) (o:Obj):St w (W.alloc o) g B v n K:=h.keep ((uk _ _).alloc (ul _) o)
theorem St.store {w W:World} {g B n K c:Nat} {v:Value} (h:St w W g B v n K) (hc:w.heap.size≤c) (hg:g≠c) (hB:B≤c) (x y:Value):St w ((W.setCell ⟨c,0,none⟩ x).setCell ⟨c,1,none⟩ y) g B v n K:=
 ⟨h.cur.keepR (cP W c x y) hg hB,Gr.rO (Gr.rO h.gr hc _) hc _,h.lt⟩
theorem St.size {w W:World} {g B n K:Nat} {v:Value} (h:St w W g B v n K):g<W.heap.size:=h.cur.size
theorem St.le {w W:World} {g B n K:Nat} {v:Value} (h:St w W g B v n K):w.heap.size≤W.heap.size:=h.gr.size
def ae (W:World) (base:Nat) (sl:Value) (z:Int):Prop:=aF W base sl (Wh.dig z.natAbs)
theorem ae.below {w w':World} {base:Nat} {v:Value} {z:Int} (h:ae w base v z) (hb:Below w.heap.size w w'):ae w' base v z:=aF.below h hb
theorem ae.base {w:World} {base base':Nat} {v:Value} {z:Int} (h:ae w base v z) (hb:base'≤base):ae w base' v z:=aF.base h hb
namespace Wh
theorem mI {l:List Int} {k:Nat} (hk:k<l.length) (h0:l[k]?=some 0):trim (l.take (k+1))=trim (l.take k):=by
 rw [List.take_add_one,h0]
 exact gj _
theorem js {l:List Int} {k:Nat} {x:Int} (hx:l[k]?=some x) (h0:x≠0):trim (l.take (k+1))=l.take (k+1):=by
 rw [List.take_add_one,hx]
 exact jr _ h0
theorem tU {n:Nat}:decide (0<(dig n).length)=decide ((n:Int)≠0):=by
 rw [decide_eq_decide]
 constructor
 ·intro h h0
  rw [fO.2 (by omega:n=0)] at h
  exact absurd h (by decide)
 intro h
 cases hd:dig n with
 | nil=>exact absurd (fO.1 hd) (by omega)
 | cons x l=>exact Nat.succ_pos _
end Wh
structure af (w:World) (b:Nat) (u v:Value):Prop where
 c0:w.cell? ⟨b,0,none⟩=some u
 c1:w.cell? ⟨b,1,none⟩=some v
 f0:w.frozen? ⟨b,0,none⟩=false
 f1:w.frozen? ⟨b,1,none⟩=false
 size:b<w.heap.size
theorem af.keep {w w':World} {b:Nat} {u v:Value} (h:af w b u v) (hb:Below w.heap.size w w'):af w' b u v:=
 have hg:=cK hb none
 ⟨hg.cell h.c0 (by simp),hg.cell h.c1 (by simp),(Gr.frozen hg h.size (by simp)).trans h.f0,(Gr.frozen hg h.size (by simp)).trans h.f1,Gr.jI hg h.size⟩
theorem af.new (w:World) (u v:Value) (T:TypeId):af (w.alloc (.cells #[u,v] T)) w.heap.size u v:=
 ⟨by rw [World.cell?_alloc_at _ _ _ _ rfl];rfl,by rw [World.cell?_alloc_at _ _ _ _ rfl];rfl,by simp [go_sem],by simp [go_sem],by rw [ui];omega⟩
theorem af.alloc {w:World} {b:Nat} {u v:Value} (h:af w b u v) (o:Obj):af (w.alloc o) b u v:=h.keep ((uk _ _).alloc (ul _) o)
theorem pP {w w2:World} {o:Obj} {sl:Value} {xs:List Int} (u:Value) (hoc:aF w2 (w.alloc o).heap.size sl xs) (hbc:Below (w.alloc o).heap.size (w.alloc o) w2) :
  aF ((w2.setCell ⟨w.heap.size,0,none⟩ u).setCell ⟨w.heap.size,1,none⟩ sl) w.heap.size sl xs∧Below w.heap.size w ((w2.setCell ⟨w.heap.size,0,none⟩ u).setCell ⟨w.heap.size,1,none⟩ sl):=by
 have hz:(w.alloc o).heap.size=w.heap.size+1:=ui _ _
 refine ⟨aF.base (World.ownsRow.kept hoc (cP w2 w.heap.size u sl) ?_) (by omega),?_⟩
 ·cases hs:sl.ownBlock with
  | none=>exact Or.inl rfl
  | some g=>
  right
  intro e
  injection e with e
  have:=(aF.lt hoc g hs).1
  omega
 exact ((((uk _ _).alloc (ul _) o).trans (hbc.mono (by omega))).setCell (ul _) _).setCell (ul _) _
theorem aF.uM {w:World} {base cap k:Nat} {a:Option Addr} {xs:List Int} (h:aF w base (.slice a xs.length cap) xs) (hk:k≤xs.length):aF w base (.slice a k cap) (xs.take k):=by
 rcases h.forms with ⟨e,rfl⟩ | ⟨g,cap',e,-⟩
 ·obtain rfl:k=0:=by simpa using hk
  exact h
 injection e with e1 e2 e3
 subst e1
 exact aF.cut rfl h hk rfl
theorem Wh.mG {l:List Int} {k n:Nat} (hk:k≤l.length) (h:l.take k=Wh.dig n):(n:Int)≠0 ↔ 0<k:=by
 have h1:=congrArg List.length h
 rw [List.length_take,Nat.min_eq_left hk] at h1
 have h2:=Wh.tU (n:=n)
 rw [decide_eq_decide,←h1] at h2
 exact h2.symm
theorem pZ (neg:Bool) (ls:List Int) (v:Value) (w:World) (base:Nat) (hown:aF w base v ls) (h:Wh.bG ls) (hl:ls.length≤1000000) :
  Calls Tryz.prog 95 #[.bool neg,v] w fun e w'=>∃ sl,e=.returned (.agg #[.bool (decide (Wh.sgn neg (Wh.val ls)<0)),sl])∧ae w' w.heap.size sl (Wh.sgn neg (Wh.val ls))∧Below w.heap.size w w':=by
 obtain ⟨a,cap,rfl,hm,hv⟩:=hown.seen
 have hv:=uh hv
 have hgt:=uh (Wh.iM h)
 have hn:=Wh.cc h
 have hs1:=uh (Wh.oJ (neg:=neg) hn)
 have hs2:=uh (Wh.kW (neg:=neg) hn)
 have hls:=uh h
 have hcp:=hown.cap
 replace hown:=uh hown
 clear hm hn h
 have bx:=af.new w (.bool false) (.slice none 0 0) 106
 go_enter Tryz.func95,Tryz.ntmps95
 go_wp2
 go_loopw [1] (fun vl wr=>∃ k:Nat,k≤ls.length∧vl=.slice a k cap∧Wh.trim (ls.take k)=Wh.trim ls∧wr=w.alloc (.cells #[.bool false,.slice none 0 0] 106)) (fun vl _=>match vl with | .slice _ n _=>n | _=>0)
 case atStart=>exact ⟨ls.length,ul _,rfl,by rw [List.take_length],rfl⟩
 case round=>
 obtain ⟨k,hk,rfl,htr,rfl⟩:=hrel
 have hown2:aF (w.alloc (.cells #[.bool false,.slice none 0 0] 106)) base (.slice a k cap) (ls.take k):=(aF.uM hown.out hk).alloc _
 have fin:ls.take k=Wh.dig (Wh.val ls).toNat→Hid ((decide (Wh.sgn neg (Wh.val ls)<0)=(neg && decide (0<k)))∧∀ (W:World) (b:Nat) (vc:Value),aF W b vc (ls.take k)→ae W b vc (Wh.sgn neg (Wh.val ls))):=fun h=>uh (by
  have h2:=Wh.mG hk h
  have hn:=Wh.cc hls.out
  refine ⟨?_,fun W b vc ho=>?_⟩
  ·rw [hs1.out]
   congr 1
   rw [decide_eq_decide,←h2]
   omega
  unfold ae
  rw [hs2.out,←h]
  exact ho)
 have PC:=fun W v h=>kv (ls.take k) v W base h (by rw [List.length_take];omega)
 have PC:=uh PC
 have hown2:=uh hown2
 have htr:=uh htr
 cases k with
 | zero=>
  have f2:=fin (by rw [←hgt.out,←htr.out];rfl)
  clear fin htr hgt
  cases neg
  all_goals
   go_wp2_with (go_at_call 116;(with_reducible refine (PC.out _ _ hown2.out).mono ?_);rintro e w2 ⟨vc,rfl,hoc,hbc⟩;obtain ⟨ac,capc,rfl,hmc,hvc⟩:=hoc.view;(have bx2:=bx.keep hbc);(have c0:=bx2.c0);(have c1:=bx2.c1);(have g0:=bx2.f0);(have g1:=bx2.f1);(clear hvc hmc))
   have hr:=pP (.bool false) hoc hbc
   exact bodyPost_ret (v:=.agg #[.bool false,.slice ac 0 capc]) (by simp [results,Tryz.results95,go_sem, *]) rfl (⟨_,by rw [f2.out.1] <;> rfl,f2.out.2 _ _ _ hr.1,hr.2⟩)
 | succ m=>
 obtain ⟨g,x,rfl,hg,hx,hcell⟩:=hv.out m (by omega)
 by_cases h0:x=0
 ·subst h0
  have hct:=uh ((Wh.mI (by omega) hx.out).symm.trans htr.out)
  clear fin htr
  go_wp2
  go_roundw
  case rel=>exact ⟨m,by omega,rfl,hct.out,by first | rfl | trivial⟩
  case measure=>simp
 have f2:=fin (by rw [←hgt.out,←htr.out,Wh.js hx.out h0])
 generalize ls.take (m+1)=L at *
 clear fin htr hgt
 cases neg
 ·go_wp2_with (go_at_call 116;(with_reducible refine (PC.out _ _ hown2.out).mono ?_);rintro e w2 ⟨vc,rfl,hoc,hbc⟩;obtain ⟨ac,capc,rfl,hmc,hvc⟩:=hoc.view;(have bx2:=bx.keep hbc);(have c0:=bx2.c0);(have c1:=bx2.c1);(have g0:=bx2.f0);(have g1:=bx2.f1);(clear hvc hmc))
  have hr:=pP (.bool false) hoc hbc
  exact bodyPost_ret (v:=.agg #[.bool false,.slice ac L.length capc]) (by simp [results,Tryz.results95,go_sem, *]) rfl (⟨_,by rw [f2.out.1] <;> rfl,f2.out.2 _ _ _ hr.1,hr.2⟩)
 go_wp2_with (go_at_call 116;(with_reducible refine (PC.out _ _ hown2.out).mono ?_);rintro e w2 ⟨vc,rfl,hoc,hbc⟩;obtain ⟨ac,capc,rfl,hmc,hvc⟩:=hoc.view;(have bx2:=bx.keep hbc);(have c0:=bx2.c0);(have c1:=bx2.c1);(have g0:=bx2.f0);(have g1:=bx2.f1);(clear hvc hmc))
 have hr:=pP (.bool true) hoc hbc
 exact bodyPost_ret (v:=.agg #[.bool true,.slice ac L.length capc]) (by simp [results,Tryz.results95,go_sem, *]) rfl (⟨_,by rw [f2.out.1] <;> simp,f2.out.2 _ _ _ hr.1,hr.2⟩)
namespace Wh
theorem oK (z:Int):sgn (!decide (z<0)) z.natAbs=-z:=by
 unfold sgn
 by_cases h:z<0
 ·rw [decide_eq_true h];simp only [Bool.not_true,Bool.false_eq_true,if_false];omega
 rw [decide_eq_false h];simp only [Bool.not_false,if_true];omega
theorem ke {o:List Int} {m N:Int} (ho:bG o) (h:val o+10000 ^ o.length*m=N) (hm:0<m) (hN:N≤1000000000000000000):o.length≤4:=by
 have h1:=cc ho
 by_cases h5:5≤o.length
 ·have h2:=gY h5
  have h3:=Int.mul_le_mul_of_nonneg_left (show 1≤m by omega) (Int.le_of_lt (pow_pos o.length))
  have h4:(10000:Int) ^ 5=100000000000000000000:=by decide
  omega
 omega
theorem iO {o:List Int} {m N:Int} (h:val o+10000 ^ o.length*m=N) (hm:0≤m):val (o ++ [m % 10000])+10000 ^ (o ++ [m % 10000]).length*(m / 10000)=N:=by
 rw [mM,List.length_append,List.length_singleton,Int.pow_succ]
 have:=Int.mul_ediv_add_emod m 10000
 generalize m % 10000=r at *
 generalize m / 10000=q at *
 grind
end Wh
theorem ei (z:Int) (neg:Bool) (ls:List Int) (v:Value) (w:World) (base:Nat) (hown:aF w base v ls) (h:Wh.bG ls) (hl:ls.length≤1000000) (hz:Wh.sgn neg (Wh.val ls)=z) :
  Calls Tryz.prog 95 #[.bool neg,v] w fun e w'=>∃ sl,e=.returned (.agg #[.bool (decide (z<0)),sl])∧ae w' w.heap.size sl z∧Below w.heap.size w w':=by
 subst hz
 exact pZ neg ls v w base hown h hl
theorem cH {w w2:World} {sl:Value} {xs:List Int} (c base:Nat) (u:Value) (h1:w.heap.size≤c) (h2:c<base) (hoc:aF w2 base sl xs) (hB:Below w.heap.size w w2) :
  aF ((w2.setCell ⟨c,0,none⟩ u).setCell ⟨c,1,none⟩ sl) w.heap.size sl xs∧Below w.heap.size w ((w2.setCell ⟨c,0,none⟩ u).setCell ⟨c,1,none⟩ sl):=by
 refine ⟨aF.base (World.ownsRow.kept hoc (cP w2 c u sl) ?_) (by omega),(hB.setCell h1 _).setCell h1 _⟩
 cases hs:sl.ownBlock with
 | none=>exact Or.inl rfl
 | some g=>
 right
 intro e
 injection e with e
 have:=(aF.lt hoc g hs).1
 omega
theorem cZ (w:World) (o o':Obj):((w.alloc o).alloc o').heap.size=w.heap.size+2:=by rw [ui,ui]
theorem af.new2 (w:World) (o:Obj) (u v:Value) (T:TypeId):af ((w.alloc o).alloc (.cells #[u,v] T)) (w.heap.size+1) u v:=by
 have:=af.new (w.alloc o) u v T
 rwa [ui] at this
theorem gX (z:Int) (sl:Value) (w:World) (base:Nat) (ho:ae w base sl z) (hl:(Wh.dig z.natAbs).length≤1000000) :
  Calls Tryz.prog 79 #[.agg #[.bool (decide (z<0)),sl]] w fun e w'=>∃ sl',e=.returned (.agg #[.bool (decide (-z<0)),sl'])∧ae w' w.heap.size sl' (-z)∧Below w.heap.size w w':=by
 have PT:=fun W v h=>ei (-z) (!decide (z<0)) (Wh.dig z.natAbs) v W base h (Wh.ai _) hl (by rw [Wh.bI];exact Wh.oK z)
 obtain ⟨a,cap,rfl,hm,hv⟩:=aF.view ho
 clear hm hv
 have ho:=uh (show aF _ _ _ _ from ho)
 generalize decide (z<0)=b at *
 generalize -z=y at *
 generalize decide (y<0)=b' at *
 generalize (Wh.dig z.natAbs).length=n at *
 have bz:=af.new2 w (.cells #[.bool b,.slice a n cap] 106) (.bool false) (.slice none 0 0) 106
 have hz2:=cZ w (.cells #[.bool b,.slice a n cap] 106) (.cells #[.bool false,.slice none 0 0] 106)
 cases b
 all_goals
  simp only [Bool.not_true,Bool.not_false] at PT
  have PT:=uh PT
  go_enter Tryz.func79,Tryz.ntmps79
  go_wp2_with (go_at_call 95;(with_reducible refine (PT.out _ _ (aF.alloc (aF.alloc ho.out _) _)).mono ?_);rintro e w2 ⟨vc,rfl,hoc,hbc⟩;obtain ⟨ac,capc,rfl,hmc,hvc⟩:=aF.view hoc;(have bx2:=bz.keep hbc);(have c0:=bx2.c0);(have c1:=bx2.c1);(have g0:=bx2.f0);(have g1:=bx2.f1);(clear hvc hmc))
  have hr:=cH (w:=w) (w.heap.size+1) _ (.bool b') (by omega) (by rw [hz2];omega) hoc (by repeat (first | exact uk _ _ | refine aP ?_ _ | refine aS ?_ (by assumption) | refine Below.drew ?_ | refine uj ?_ (by first | exact ul _ | exact Nat.le_add_right _ _ | (simp <;> omega)) _ | refine aK ?_ _))
  generalize (Wh.dig y.natAbs).length=n2 at *
  exact bodyPost_ret (v:=.agg #[.bool b',.slice ac n2 capc]) (by simp [results,Tryz.results79,go_sem, *]) rfl (⟨_,rfl,hr.1,hr.2⟩)
theorem mT (z:Int) (sl:Value) (w:World) (base:Nat) (ho:ae w base sl z) (hl:(Wh.dig z.natAbs).length≤1000000) :
  Calls Tryz.prog 154 #[.agg #[.bool (decide (z<0)),sl]] w fun e w'=>∃ sl',e=.returned (.agg #[.bool (decide ((z.natAbs:Int)<0)),sl'])∧ae w' w.heap.size sl' (z.natAbs:Int)∧Below w.heap.size w w':=by
 have PT:=fun W v h=>ei (z.natAbs:Int) false (Wh.dig z.natAbs) v W base h (Wh.ai _) hl (by rw [Wh.bI];rfl)
 obtain ⟨a,cap,rfl,hm,hv⟩:=aF.view ho
 clear hm hv
 have ho:=uh (show aF _ _ _ _ from ho)
 generalize decide (z<0)=b at *
 generalize (z.natAbs:Int)=y at *
 generalize decide (y<0)=b' at *
 generalize (Wh.dig z.natAbs).length=n at *
 have bz:=af.new2 w (.cells #[.bool b,.slice a n cap] 106) (.bool false) (.slice none 0 0) 106
 have hz2:=cZ w (.cells #[.bool b,.slice a n cap] 106) (.cells #[.bool false,.slice none 0 0] 106)
 cases b
 all_goals
  have PT:=uh PT
  go_enter Tryz.func154,Tryz.ntmps154
  go_wp2_with (go_at_call 95;(with_reducible refine (PT.out _ _ (aF.alloc (aF.alloc ho.out _) _)).mono ?_);rintro e w2 ⟨vc,rfl,hoc,hbc⟩;obtain ⟨ac,capc,rfl,hmc,hvc⟩:=aF.view hoc;(have bx2:=bz.keep hbc);(have c0:=bx2.c0);(have c1:=bx2.c1);(have g0:=bx2.f0);(have g1:=bx2.f1);(clear hvc hmc))
  have hr:=cH (w:=w) (w.heap.size+1) _ (.bool b') (by omega) (by rw [hz2];omega) hoc (by repeat (first | exact uk _ _ | refine aP ?_ _ | refine aS ?_ (by assumption) | refine Below.drew ?_ | refine uj ?_ (by first | exact ul _ | exact Nat.le_add_right _ _ | (simp <;> omega)) _ | refine aK ?_ _))
  generalize (Wh.dig y.natAbs).length=n2 at *
  exact bodyPost_ret (v:=.agg #[.bool b',.slice ac n2 capc]) (by simp [results,Tryz.results154,go_sem, *]) rfl (⟨_,rfl,hr.1,hr.2⟩)
theorem af.dI {w w':World} {b base:Nat} {u v:Value} (h:af w b u v) (hb:Below base w w') (hl:b<base):af w' b u v:=
 ⟨(hb.cell (p:=⟨b,0,none⟩) hl).trans h.c0,(hb.cell (p:=⟨b,1,none⟩) hl).trans h.c1,(hb.frozen (p:=⟨b,0,none⟩) hl).trans h.f0,(hb.frozen (p:=⟨b,1,none⟩) hl).trans h.f1,Nat.lt_of_lt_of_le h.size hb.size⟩
theorem bX (n:Int) (w:World) (h1:-1000000000000000000≤n) (h2:n≤1000000000000000000) :
  Calls Tryz.prog 77 #[.int .i64 n] w fun e w'=>∃ sl,e=.returned (.agg #[.bool (decide (n<0)),sl])∧ae w' w.heap.size sl n∧Below w.heap.size w w':=by
 obtain ⟨k,hk⟩:∃ k:Nat,n.natAbs=k:=⟨_,rfl⟩
 have PT:=fun (o:List Int) (W:World) (v:Value) (base:Nat) (h:aF W base v o) (hl:Wh.bG o) (hv:Wh.val o=k) (hlen:o.length≤1000000)=>ei n (decide (n<0)) o v W base h hl hlen (by rw [hv,←hk];exact Wh.mE n)
 have hbd:(k:Int)≤1000000000000000000:=by omega
 have bx:=af.new w (.bool false) (.slice none 0 0) 106
 by_cases hneg:n<0
 ·obtain rfl:n=-(k:Int):=by omega
  have hk0:0<(k:Int):=by omega
  have hdk:decide (-(k:Int)<0)=decide (0<k):=by rw [decide_eq_decide];omega
  rw [hdk] at PT ⊢
  clear hdk
  have PT:=uh PT
  clear hk hneg h1 h2
  go_enter Tryz.func77,Tryz.ntmps77
  go_wp2
  go_loopw [0,4] (fun vn vo wr=>∃ (m:Nat) (o:List Int),vn=.int .i64 m∧aF wr (w.heap.size+1) vo o∧Wh.bG o∧Wh.val o+10000 ^ o.length*(m:Int)=k∧m≤1000000000000000000∧o.length≤5∧Hid (af wr w.heap.size (.bool false) (.slice none 0 0))∧Below w.heap.size w wr) (fun vn _ _=>(intOf vn).toNat)
  case atStart=>exact ⟨k,[],rfl,aF.nil _ _,(fun x hx=>by cases hx),by simp [Wh.val],by omega,by simp,uh bx,(uk _ _).alloc (ul _) _⟩
  case round=>
  clear bx
  obtain ⟨m,o,rfl,hown,hls,hvl,hm18,ho5,bxr,hbr⟩:=hrel
  have hls:=uh hls
  have hzr:w.heap.size+1≤wr.heap.size:=bxr.out.size
  by_cases hm0:0<m
  ·have hlen:=Wh.ke hls.out hvl (by omega) (by omega)
   have hst:=Wh.iO hvl (by omega)
   rw [show ((m:Int) % 10000)=((m % 10000:Nat):Int) by omega,show ((m:Int) / 10000)=((m / 10000:Nat):Int) by omega] at hst
   have hst:=uh hst
   have hrb:m % 10000<10000:=Nat.mod_lt _ (by decide)
   have hqb:m / 10000<m:=Nat.div_lt_self hm0 (by decide)
   have t1:Int.tmod (m:Int) 10000=((m % 10000:Nat):Int):=by rw [Int.tmod_eq_emod_of_nonneg (by omega)];omega
   have t2:Int.tdiv (m:Int) 10000=((m / 10000:Nat):Int):=by rw [Int.tdiv_eq_ediv_of_nonneg (by omega)];omega
   generalize m % 10000=r at *
   generalize m / 10000=q at *
   have hl2:Hid (Wh.bG (o ++ [(r:Int)])):=uh (Wh.cO hls.out fun y hy=>by rw [List.mem_singleton] at hy;subst hy;unfold Wh.lim;omega)
   have hl3:Hid ((o ++ [(r:Int)]).length≤5):=uh (by rw [List.length_append];simp;omega)
   have hown:=uh hown
   clear hvl
   go_wp2_with (at_builtin;refine cY (W:=wr) (w.heap.size+1) (r:Int) _ _ rfl (.tmp 15) (.tmp 18) rfl rfl rfl hown.out (uk _ _) (by omega) (by omega) ?_;rintro v6 w6 hown6 hb6)
   go_roundw
   case rel=>exact ⟨q,o ++ [(r:Int)],rfl,hown6,hl2.out,hst.out,by omega,hl3.out,uh (bxr.out.dI hb6 (Nat.lt_succ_self _)),hbr.trans (hb6.mono (Nat.le_succ _))⟩
   case measure=>simp [intOf];omega
  obtain rfl:m=0:=by omega
  have hvl2:Wh.val o=k:=by rw [←hvl];simp
  have hvl2:=uh hvl2
  have hown:=uh hown
  clear hvl
  go_wp2_with (go_at_call 95;(with_reducible refine (PT.out o _ _ _ hown.out hls.out hvl2.out (by omega)).mono ?_);rintro e w2 ⟨vc,rfl,hoc,hbc⟩;obtain ⟨ac,capc,rfl,hmc,hvc⟩:=aF.view hoc;(have bx2:=bxr.out.keep hbc);(have c0:=bx2.c0);(have c1:=bx2.c1);(have g0:=bx2.f0);(have g1:=bx2.f1);(clear hvc hmc))
  have hr:=cH (w:=w) w.heap.size _ (.bool (decide (0<k))) (ul _) bxr.out.size hoc (hbr.trans (hbc.mono (by omega)))
  have en:(-(k:Int)).natAbs=k:=by omega
  rw [en] at hr
  generalize (Wh.dig k).length=n2 at *
  exact bodyPost_ret (v:=.agg #[.bool (decide (0<k)),.slice ac n2 capc]) (by simp [results,Tryz.results77,go_sem, *]) rfl (⟨_,rfl,by unfold ae;rw [en];exact hr.1,hr.2⟩)
 obtain rfl:n=(k:Int):=by omega
 rw [decide_eq_false hneg] at PT ⊢
 have PT:=uh PT
 clear hk h1 h2
 have hng2:0≤(k:Int):=by omega
 go_enter Tryz.func77,Tryz.ntmps77
 go_wp2
 go_loopw [0,4] (fun vn vo wr=>∃ (m:Nat) (o:List Int),vn=.int .i64 m∧aF wr (w.heap.size+1) vo o∧Wh.bG o∧Wh.val o+10000 ^ o.length*(m:Int)=k∧m≤1000000000000000000∧o.length≤5∧Hid (af wr w.heap.size (.bool false) (.slice none 0 0))∧Below w.heap.size w wr) (fun vn _ _=>(intOf vn).toNat)
 case atStart=>exact ⟨k,[],rfl,aF.nil _ _,(fun x hx=>by cases hx),by simp [Wh.val],by omega,by simp,uh bx,(uk _ _).alloc (ul _) _⟩
 case round=>
 clear bx
 obtain ⟨m,o,rfl,hown,hls,hvl,hm18,ho5,bxr,hbr⟩:=hrel
 have hls:=uh hls
 have hzr:w.heap.size+1≤wr.heap.size:=bxr.out.size
 by_cases hm0:0<m
 ·have hlen:=Wh.ke hls.out hvl (by omega) (by omega)
  have hst:=Wh.iO hvl (by omega)
  rw [show ((m:Int) % 10000)=((m % 10000:Nat):Int) by omega,show ((m:Int) / 10000)=((m / 10000:Nat):Int) by omega] at hst
  have hst:=uh hst
  have hrb:m % 10000<10000:=Nat.mod_lt _ (by decide)
  have hqb:m / 10000<m:=Nat.div_lt_self hm0 (by decide)
  have t1:Int.tmod (m:Int) 10000=((m % 10000:Nat):Int):=by rw [Int.tmod_eq_emod_of_nonneg (by omega)];omega
  have t2:Int.tdiv (m:Int) 10000=((m / 10000:Nat):Int):=by rw [Int.tdiv_eq_ediv_of_nonneg (by omega)];omega
  generalize m % 10000=r at *
  generalize m / 10000=q at *
  have hl2:Hid (Wh.bG (o ++ [(r:Int)])):=uh (Wh.cO hls.out fun y hy=>by rw [List.mem_singleton] at hy;subst hy;unfold Wh.lim;omega)
  have hl3:Hid ((o ++ [(r:Int)]).length≤5):=uh (by rw [List.length_append];simp;omega)
  have hown:=uh hown
  clear hvl
  go_wp2_with (at_builtin;refine cY (W:=wr) (w.heap.size+1) (r:Int) _ _ rfl (.tmp 15) (.tmp 18) rfl rfl rfl hown.out (uk _ _) (by omega) (by omega) ?_;rintro v6 w6 hown6 hb6)
  go_roundw
  case rel=>exact ⟨q,o ++ [(r:Int)],rfl,hown6,hl2.out,hst.out,by omega,hl3.out,uh (bxr.out.dI hb6 (Nat.lt_succ_self _)),hbr.trans (hb6.mono (Nat.le_succ _))⟩
  case measure=>simp [intOf];omega
 obtain rfl:m=0:=by omega
 have hvl2:Wh.val o=k:=by rw [←hvl];simp
 have hvl2:=uh hvl2
 have hown:=uh hown
 clear hvl
 go_wp2_with (go_at_call 95;(with_reducible refine (PT.out o _ _ _ hown.out hls.out hvl2.out (by omega)).mono ?_);rintro e w2 ⟨vc,rfl,hoc,hbc⟩;obtain ⟨ac,capc,rfl,hmc,hvc⟩:=aF.view hoc;(have bx2:=bxr.out.keep hbc);(have c0:=bx2.c0);(have c1:=bx2.c1);(have g0:=bx2.f0);(have g1:=bx2.f1);(clear hvc hmc))
 have hr:=cH (w:=w) w.heap.size _ (.bool false) (ul _) bxr.out.size hoc (hbr.trans (hbc.mono (by omega)))
 have en:(k:Int).natAbs=k:=by omega
 rw [en] at hr
 generalize (Wh.dig k).length=n2 at *
 exact bodyPost_ret (v:=.agg #[.bool false,.slice ac n2 capc]) (by simp [results,Tryz.results77,go_sem, *]) rfl (⟨_,rfl,by unfold ae;rw [en];exact hr.1,hr.2⟩)
theorem sJ (xs:List Int) (v:Value) (w:World) (base:Nat) (hown:aF w base v xs) (hl:xs.length≤1000000000) :
  Calls Tryz.prog 147 #[v] w fun e w'=>∃ v',e=.returned v'∧aF w' w.heap.size v' xs∧Below w.heap.size w w':=by
 obtain ⟨A,cap',rfl,hf⟩:=lK hown
 have hf:=uh hf
 go_enter Tryz.func147,Tryz.ntmps147
 go_wp2_with (at_builtin;refine li (W:=w) w.heap.size xs [] _ A _ _ (by rfl) (by rfl) (.tmp 3) (.tmp 4) (by rfl) (by rfl) (by rfl) (hf.out _ (by repeat (first | exact uk _ _ | refine aP ?_ _ | refine aS ?_ (by assumption) | refine Below.drew ?_ | refine uj ?_ (by first | exact ul _ | exact Nat.le_add_right _ _ | (simp <;> omega)) _ | refine aK ?_ _))) (aF.tg _ _ (ul _)) (by repeat (first | exact uk _ _ | refine aP ?_ _ | refine aS ?_ (by assumption) | refine Below.drew ?_ | refine uj ?_ (by first | exact ul _ | exact Nat.le_add_right _ _ | (simp <;> omega)) _ | refine aK ?_ _)) (by simp) (by simp;omega) ?_;rintro v1 w1 hown1 hb1)
 go_ret
 exact ⟨_,rfl,hown1,hb1⟩
end
end Go.Proofs.YtgfkcoablfjbcaaGreatDoor
