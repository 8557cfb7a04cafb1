/-
  Joined texts: contracts and plain lemmas.
-/
import Derived.Test.YtgfkcoablfjbcaaGreatDoorB1
import Derived.Test.YtgfkcoablfjbcaaGreatDoorB23
import Derived.Test.YtgfkcoablfjbcaaGreatDoorShG
set_option linter.unusedSimpArgs false
set_option linter.unusedVariables false
set_option maxRecDepth 100000
set_option maxHeartbeats 8000000
namespace Go.Proofs.YtgfkcoablfjbcaaGreatDoor
section
open Go.RowKit
namespace M
def done (i k:Nat) (x y:Nat):Bool:=decide (min x y<i) || (decide (min x y=i) && decide (max x y<k))
def ck (n:Nat) (p:Nat→Bool) (f:Nat→Int × Int):List (Int × Int):=(List.range n).map fun j=>if p j then f j else (0,0)
def cj (n:Nat) (P:Nat→Nat→Bool) (f:Nat→Nat→Int × Int):Mat:=(List.range n).map fun i=>ck n (P i) (f i)
noncomputable def fe (a b:Int) (l:List Pt) (i j:Nat):Int × Int:=spc (ent a b l i j)
theorem eW (n:Nat) (p:Nat→Bool) (f:Nat→Int × Int):(ck n p f).length=n:=by unfold ck;rw [List.length_map,List.length_range]
theorem gJ (n:Nat) (P:Nat→Nat→Bool) (f:Nat→Nat→Int × Int):(cj n P f).length=n:=by unfold cj;rw [List.length_map,List.length_range]
theorem dM {n i:Nat} (P:Nat→Nat→Bool) (f:Nat→Nat→Int × Int) (h:i<n):(cj n P f)[i]?=some (ck n (P i) (f i)):=by
 unfold cj
 rw [List.getElem?_map,List.getElem?_range h]
 rfl
theorem dl {n j:Nat} (p:Nat→Bool) (f:Nat→Int × Int) (h:j<n):(ck n p f)[j]?=some (if p j then f j else (0,0)):=by
 unfold ck
 rw [List.getElem?_map,List.getElem?_range h]
 rfl
theorem jM {n:Nat} {p q:Nat→Bool} {f:Nat→Int × Int} (h:∀ j,j<n→p j=q j):ck n p f=ck n q f:=by
 unfold ck
 refine List.map_congr_left fun j hj=>?_
 rw [h j (List.mem_range.1 hj)]
theorem rW {n:Nat} {P Q:Nat→Nat→Bool} {f:Nat→Nat→Int × Int} (h:∀ i,i<n→∀ j,j<n→P i j=Q i j):cj n P f=cj n Q f:=by
 unfold cj
 refine List.map_congr_left fun i hi=>?_
 exact jM (h i (List.mem_range.1 hi))
theorem my {n j:Nat} {p q:Nat→Bool} {f:Nat→Int × Int} (hj:j<n) (h1:q j=true) (h2:∀ t,t≠j→t<n→q t=p t):(ck n p f).set j (f j)=ck n q f:=by
 apply List.ext_getElem?
 intro t
 rcases Nat.lt_or_ge t n with q1 | q1
 ·rw [dl q f q1]
  by_cases e:j=t
  ·subst e
   rw [List.getElem?_set_self (by rw [eW];exact q1),if_pos h1]
  rw [List.getElem?_set_ne e,dl p f q1,h2 t (fun h=>e h.symm) q1]
 rw [List.getElem?_eq_none (by rw [List.length_set,eW];exact q1),List.getElem?_eq_none (by rw [eW];exact q1)]
theorem jL {n i j:Nat} {P Q:Nat→Nat→Bool} {f:Nat→Nat→Int × Int} (hi:i<n) (hj:j<n) (h1:Q i j=true) (h2:∀ x y,¬ (x=i∧y=j)→x<n→y<n→Q x y=P x y):(cj n P f).set i ((ck n (P i) (f i)).set j (f i j))=cj n Q f:=by
 rw [my (p:=P i) (q:=Q i) (f:=f i) hj h1 (fun t ht htn=>h2 i t (fun h=>ht h.2) hi htn)]
 apply List.ext_getElem?
 intro t
 rcases Nat.lt_or_ge t n with q1 | q1
 ·rw [dM Q f q1]
  by_cases e:i=t
  ·subst e
   rw [List.getElem?_set_self (by rw [gJ];exact q1)]
  rw [List.getElem?_set_ne e,dM P f q1,jM (p:=P t) (q:=Q t) (fun y hy=>(h2 t y (fun h=>e h.1.symm) q1 hy).symm)]
 rw [List.getElem?_eq_none (by rw [List.length_set,gJ];exact q1),List.getElem?_eq_none (by rw [gJ];exact q1)]
theorem pW (n:Nat) (f:Nat→Nat→Int × Int):List.replicate n (List.replicate n ((0:Int),(0:Int)))=cj n (done 0 0) f:=by
 apply List.ext_getElem?
 intro t
 rcases Nat.lt_or_ge t n with q1 | q1
 ·rw [dM _ f q1,List.getElem?_replicate,if_pos q1]
  congr 1
  apply List.ext_getElem?
  intro y
  rcases Nat.lt_or_ge y n with q2 | q2
  ·rw [dl _ _ q2,List.getElem?_replicate,if_pos q2]
   simp [done]
  rw [List.getElem?_eq_none (by rw [List.length_replicate];exact q2),List.getElem?_eq_none (by rw [eW];exact q2)]
 rw [List.getElem?_eq_none (by rw [List.length_replicate];exact q1),List.getElem?_eq_none (by rw [gJ];exact q1)]
def half (i k:Nat) (x y:Nat):Bool:=done i k x y || (decide (x=i) && decide (y=k))
def ud (i k:Nat):Nat→Nat→Nat→Bool
 | 0=>done i k
 | 1=>half i k
 | _=>done i (k+1)
theorem rC {n i:Nat} (f:Nat→Nat→Int × Int) (hi:i<n):(cj n (done i i) f).set i ((ck n (done i i i) (f i)).set i (f i i))=cj n (done i (i+1)) f:=by
 refine jL hi hi (by simp [done]) fun x y h _ _=>?_
 unfold done
 by_cases h1:min x y<i
 ·simp [h1]
 have h3:¬ (min x y=i∧max x y<i+1):=fun ⟨a1,a2⟩=>h ⟨by omega,by omega⟩
 have h4:¬ (min x y=i∧max x y<i):=fun ⟨a1,a2⟩=>by omega
 simp only [h1,decide_false,Bool.false_or,←Bool.decide_and,h3,h4]
theorem sZ {n i k:Nat} (f:Nat→Nat→Int × Int) (hi:i<k) (hk:k<n):(cj n (done i k) f).set i ((ck n (done i k i) (f i)).set k (f i k))=cj n (half i k) f:=
 jL (by omega) hk (by simp [half]) fun x y h _ _=>by
  unfold half
  have:(decide (x=i) && decide (y=k))=false:=by rw [←Bool.decide_and,decide_eq_false_iff_not];exact h
  rw [this,Bool.or_false]
theorem sc {n i k:Nat} (f:Nat→Nat→Int × Int) (hs:f k i=f i k) (hi:i<k) (hk:k<n):(cj n (half i k) f).set k ((ck n (half i k k) (f k)).set i (f i k))=cj n (done i (k+1)) f:=by
 rw [←hs]
 refine jL hk (by omega) (by simp [done];omega) fun x y h _ _=>?_
 unfold half done
 by_cases h1:min x y<i
 ·simp [h1]
 by_cases h2:x=i∧y=k
 ·obtain ⟨rfl,rfl⟩:=h2
  have e1:min x y=x:=by omega
  have e2:max x y<y+1:=by omega
  simp [e1,e2]
 have h3:(min x y=i∧max x y<k+1) ↔ (min x y=i∧max x y<k):=⟨fun ⟨a1,a2⟩=>⟨a1,by omega⟩,fun ⟨a1,a2⟩=>⟨a1,by omega⟩⟩
 simp only [h1,decide_false,Bool.false_or,←Bool.decide_and,h2,Bool.or_false,h3]
theorem oh {n i:Nat} (f:Nat→Nat→Int × Int):cj n (done i n) f=cj n (done (i+1) (i+1)) f:=by
 refine rW fun x hx y hy=>?_
 unfold done
 have h2:¬ (min x y=i+1∧max x y<i+1):=by omega
 have h1:(min x y<i∨(min x y=i∧max x y<n)) ↔ min x y<i+1:=by omega
 simp only [←Bool.decide_and,←Bool.decide_or,h2,decide_false,Bool.or_false,h1]
theorem qM {n:Nat} (f:Nat→Nat→Int × Int):cj n (done n n) f=(List.range n).map fun i=>(List.range n).map fun j=>f i j:=by
 unfold cj ck
 refine List.map_congr_left fun i hi=>List.map_congr_left fun j hj=>?_
 have:=List.mem_range.1 hi
 have:=List.mem_range.1 hj
 rw [if_pos]
 unfold done
 rw [decide_eq_true (by omega:min i j<n)]
 rfl
theorem tY (a b:Int) (l:List Pt) (i j:Nat):fe a b l i j=fe a b l j i:=by unfold fe;rw [iE]
theorem q8 {a b:Int} {l:List Pt} (h:mOk a b l=false):eN a b l=[]:=by unfold eN;rw [h];rfl
theorem pC {a b:Int} {l:List Pt} (h:mOk a b l=true):eN a b l=cj l.length (done l.length l.length) (fe a b l):=by rw [qM];unfold eN;rw [h];rfl
end M
theorem dm.size {W:World} {gm n:Nat} {rows:M.Mat} (h:dm W gm n rows) (hn:0<n):gm+1+n≤W.heap.size:=by
 obtain ⟨h1,h2,h3⟩:=h
 have hl:n - 1<rows.length:=by omega
 have:=(h3 (n - 1) _ (List.getElem?_eq_getElem hl)).2.lt
 omega
def dN (w:World) (N:Nat) (a b x1 x2 x3:Int) (pb:Nat) (rows:M.Mat) (W:World):Prop:=
 dm W (w.heap.size+1) N rows∧aH W w.heap.size 28 #[.int .i64 a,.int .i64 b]∧(w.heap.size+1+1+N≤pb∧aH W pb 45 #[.int .i64 x1,.int .i64 x2,.int .i64 x3])∧Below w.heap.size w W
def eC (w:World) (N sb:Nat) (q:Int × Int) (W:World):Prop:=w.heap.size+1+1+N≤sb∧aH W sb 61 #[.int .i64 q.1,.int .i64 q.2]
theorem dN.below {w W W':World} {N:Nat} {a b x1 x2 x3:Int} {pb:Nat} {rows:M.Mat} (h:dN w N a b x1 x2 x3 pb rows W) (hb:Below W.heap.size W W'):dN w N a b x1 x2 x3 pb rows W':=
 ⟨h.1.below hb,h.2.1.keep hb,⟨h.2.2.1.1,h.2.2.1.2.keep hb⟩,h.2.2.2.trans (hb.mono h.2.2.2.size)⟩
theorem eC.below {w W W':World} {N sb:Nat} {q:Int × Int} (h:eC w N sb q W) (hb:Below W.heap.size W W'):eC w N sb q W':=⟨h.1,h.2.keep hb⟩
theorem dN.put {w W:World} {N:Nat} {a b x1 x2 x3:Int} {pb:Nat} {rows rows':M.Mat} {i j:Nat} {r:List (Int × Int)} {q:Int × Int} (h:dN w N a b x1 x2 x3 pb rows W) (hr:rows[i]?=some r) (hj:j<N) (he:rows.set i (r.set j q)=rows'):dN w N a b x1 x2 x3 pb rows' ((W.setCell ⟨w.heap.size+1+1+i,j*2,none⟩ (.int .i64 q.1)).setCell ⟨w.heap.size+1+1+i,j*2+1,none⟩ (.int .i64 q.2)):=by
 subst he
 have hi:i<N:=by rw [←h.1.1];exact (List.getElem?_eq_some_iff.1 hr).1
 have hp:=h.2.2.1.1
 exact ⟨h.1.put hr hj q,(h.2.1.other (by omega) _).other (by omega) _,⟨hp,(h.2.2.1.2.other (by omega) _).other (by omega) _⟩,uj (uj h.2.2.2 (by show w.heap.size≤w.heap.size+1+1+i;omega) _) (by show w.heap.size≤w.heap.size+1+1+i;omega) _⟩
theorem eC.put {w W:World} {N sb i j1 j2:Nat} {q:Int × Int} {u v:Value} (h:eC w N sb q W) (hi:i<N):eC w N sb q ((W.setCell ⟨w.heap.size+1+1+i,j1,none⟩ u).setCell ⟨w.heap.size+1+1+i,j2,none⟩ v):=by
 have hp:=h.1
 exact ⟨hp,(h.2.other (by omega) _).other (by omega) _⟩
theorem lw (gm n:Nat):dx gm n n=((List.range n).map fun i=>Value.slice (some ⟨gm+1+i,0,none⟩) n n).toArray:=by
 unfold dx
 congr 1
 apply List.map_congr_left
 intro i hi
 rw [if_pos (List.mem_range.1 hi)]
theorem iA (a b:Int) (v:Value) (l:List Pt) (w:World) (hx:fc w v l) (hg:M.good a b=true) (hn:l.length≤4) (hp:∀ p ∈ l,M.bR a b p.1 p.2.1 p.2.2=true) :
  Calls Tryz.prog 24 #[.agg #[.int .i64 a,.int .i64 b],v] w fun e w'=>∃ mv,e=.returned (.tuple #[mv,.bool (M.mOk a b l)])∧es w' w.heap.size mv (M.eN a b l)∧Below w.heap.size w w':=by
 have hin:=M.bE hg
 obtain ⟨sa,cap,rfl,hv⟩:=hx
 have hv:=uh hv
 have hp:=uh hp
 obtain ⟨N,hN⟩:∃ N,Hid (l.length=N):=⟨_,uh rfl⟩
 rw [hN.out] at hn ⊢
 have hmk:=fun W=>sK W N hn
 have hms:=fun W=>qr W N hn
 have B:=((uk w.heap.size w).alloc (ul _) (.cells #[.int .i64 a,.int .i64 b] 28)).alloc (by rw [ui];omega) (.cells (Array.replicate N (Value.slice none 0 0)) 59)
 have C:=(aH.new w #[.int .i64 a,.int .i64 b] 28).alloc (.cells (Array.replicate N (Value.slice none 0 0)) 59)
 have G:=aH.new (w.alloc (.cells #[.int .i64 a,.int .i64 b] 28)) (Array.replicate N (Value.slice none 0 0)) 59
 rw [ui] at G
 have hz:((w.alloc (.cells #[.int .i64 a,.int .i64 b] 28)).alloc (.cells (Array.replicate N (Value.slice none 0 0)) 59)).heap.size=w.heap.size+1+1:=by rw [ui,ui]
 generalize hw3:(w.alloc (.cells #[.int .i64 a,.int .i64 b] 28)).alloc (.cells (Array.replicate N (Value.slice none 0 0)) 59)=wc at *
 have hr0:Array.replicate N (Value.slice none 0 0)=dx (w.heap.size+1) N 0:=by rw [l8,List.toArray_replicate]
 rw [hr0] at G
 clear hr0
 go_enter Tryz.func24,Tryz.ntmps24
 go_wp2
 go_loopw [20] (fun vk wr=>∃ k:Nat,k≤N∧vk=.int .i64 k∧aH wr (w.heap.size+1) 59 (dx (w.heap.size+1) N k)∧wr.heap.size=w.heap.size+1+1+k∧(∀ i,i<k→aH wr (w.heap.size+1+1+i) 61 (bg (List.replicate N (0,0))))∧aH wr w.heap.size 28 #[.int .i64 a,.int .i64 b]∧Below w.heap.size w wr) (fun vk _=>N - (intOf vk).toNat)
 case atStart=>exact ⟨0,Nat.zero_le _,rfl,G,hz,fun i h=>absurd h (by omega),C,B⟩
 case round=>
 clear C B G hz hw3
 obtain ⟨k,hk,rfl,G,hz,hrow,C,B⟩:=hrel
 by_cases hlt:k<N
 ·have Gb:=G.lt
  have G2:=G.alloc (.cells (bg (List.replicate N (0,0))) 61)
  have g0:=(G2.cell k).trans (pQ hlt)
  have gf:=G2.frz k
  have Gn:=aH.new wr (bg (List.replicate N (0,0))) 61
  have C2:=C.alloc (.cells (bg (List.replicate N (0,0))) 61)
  have B2:=B.alloc B.size (.cells (bg (List.replicate N (0,0))) 61)
  go_wp2
  go_roundw
  case rel=>
   refine ⟨k+1,by omega,by go_num,?_,?_,fun i hi2=>?_,C2.other (by omega) _,uj B2 (by simp) _⟩
   ·rw [←ly hlt,←hz]
    exact G2.set k _
   ·rw [bO,ui];omega
   rcases Nat.lt_or_ge i k with q | q
   ·exact ((hrow i q).alloc _).other (by omega) _
   obtain rfl:i=k:=by omega
   rw [←hz]
   exact Gn.other (by omega) _
  case measure=>simp [intOf] <;> omega
 obtain rfl:N=k:=by omega
 have hG:dm wr (w.heap.size+1) N (List.replicate N (List.replicate N (0,0))):=by
  refine ⟨List.length_replicate,by rw [←lw];exact G,fun i r hr=>?_⟩
  have hi:i<N:=by
   have:=(List.getElem?_eq_some_iff.1 hr).1
   rw [List.length_replicate] at this
   exact this
  rw [List.getElem?_replicate,if_pos hi] at hr
  have e:=Option.some.inj hr
  subst e
  exact ⟨List.length_replicate,hrow i hi⟩
 rw [M.pW _ (M.fe a b l)] at hG
 clear G hrow hz hmk hms hlt
 have hno:=uh fun i j h1 h2 h=>M.qk (a:=a) (b:=b) (l:=l) (i:=i) (j:=j) h1 h2 h
 have hrn:=uh fun h=>M.q8 (a:=a) (b:=b) (l:=l) h
 go_wp2
 go_loopw [32] (fun vi wq=>∃ i:Nat,i≤N∧vi=.int .i64 i∧Hid (∀ i',i'<i→∀ j,j<l.length→(M.ent a b l i' j).isSome=true)∧Hid (dm wq (w.heap.size+1) N (M.cj N (M.done i i) (M.fe a b l)))∧aH wq w.heap.size 28 #[.int .i64 a,.int .i64 b]∧Below w.heap.size w wq) (fun vi _=>N - (intOf vi).toNat)
 case atStart=>exact ⟨0,Nat.zero_le _,rfl,uh (fun i' h=>absurd h (by omega)),uh hG,C,B⟩
 case round=>
 clear C B hG
 obtain ⟨i,hi,rfl,hall,hG,C,B⟩:=hrel
 by_cases hlt:i<N
 ·obtain ⟨x,hx⟩:∃ x,l[i]?=some x:=⟨_,List.getElem?_eq_getElem (by have:=hN.out;omega)⟩
  obtain ⟨g,rfl,hpt⟩:∃ g,sa=some ⟨g,0,none⟩∧ek w g l:=by
   rcases hv.out with h | h
   ·rw [h] at hx;cases hx
   exact h
  have hpt:=uh hpt
  obtain ⟨d0,d1,d2⟩:=(hpt.out.below B) i x hx
  have hpx:=hp.out x (List.mem_of_getElem? hx)
  have he:=M.lE (a:=a) (b:=b) hx
  have hx:=uh hx
  obtain ⟨x1,x2,x3⟩:=x
  simp only [] at d0 d1 d2 hpx he
  have hb1:=M.d6 hin hpx
  have PS:=fun W=>jU a b x1 x2 x3 W hg hb1.1 hb1.2.1 hb1.2.2.1 hb1.2.2.2.1
  clear hb1
  generalize M.d8 a b x1 x3=ss at *
  have hni:=hno.out i i (by have:=hN.out;omega) (by have:=hN.out;omega)
  rw [he] at hni
  have hgs:=hG.out.size (by omega)
  have Bv:=(uk wr.heap.size wr).alloc (ul _) (.cells #[.int .i64 x1,.int .i64 x2,.int .i64 x3] 45)
  have C1:=C.alloc (.cells #[.int .i64 x1,.int .i64 x2,.int .i64 x3] 45)
  have Z1:=aH.new wr #[.int .i64 x1,.int .i64 x2,.int .i64 x3] 45
  have C_c0:=C1.box.c0
  have C_c1:=C1.box.c1
  have ⟨z0,z1,z2⟩:=Z1.aQ
  cases ss with
  | none=>
   have hfin:=uh (hni rfl)
   have hfr:=uh (hrn.out hfin.out)
   have e9:=uh (show M.slo none=0∧M.shi none=0∧(none:M.Sp).isSome=false from ⟨rfl,rfl,rfl⟩)
   rw [e9.out.1,e9.out.2.1,e9.out.2.2] at PS
   clear hni hno hrn e9 he
   replace PS:=uh PS
   go_wp2_with (go_at_call 40;(with_reducible refine (PS.out _).mono ?_);rintro e w4 ⟨rfl,hb4⟩;(replace Bv:=(Bv.trans (hb4.mono Bv.size)).alloc (Nat.le_trans Bv.size hb4.size) (.cells #[.int .i64 0,.int .i64 0] 61));(have V:=aH.new w4 #[.int .i64 0,.int .i64 0] 61);(have hz4:=hb4.size);(rw [ui] at hz4);(replace Z1:=(Z1.keep hb4).alloc (.cells #[.int .i64 0,.int .i64 0] 61));(have ⟨v0,v1,_,_,_⟩:=V.box))
   go_ret2
   exact ⟨_,by rw [hfin.out];rfl,by rw [hfr.out];exact es.nil _ _,B.trans (Bv.mono B.size)⟩
  | some q=>
  have hqe:M.fe a b l i i=q:=by unfold M.fe;rw [he];rfl
  have hqe:=uh hqe
  have hsm:=uh (show (M.ent a b l i i).isSome=true by rw [he];rfl)
  obtain ⟨q1,q2⟩:=q
  have e1:M.slo (some (q1,q2))=q1:=rfl
  have e2:M.shi (some (q1,q2))=q2:=rfl
  have e5:(some (q1,q2):M.Sp).isSome=true:=rfl
  rw [e1,e2,e5] at PS
  clear hni he e1 e2 e5
  replace PS:=uh PS
  go_upto_region 13 with (go_at_call 40;(with_reducible refine (PS.out _).mono ?_);rintro e w4 ⟨rfl,hb4⟩;(replace Bv:=(Bv.trans (hb4.mono Bv.size)).alloc (Nat.le_trans Bv.size hb4.size) (.cells #[.int .i64 q1,.int .i64 q2] 61));(have V:=aH.new w4 #[.int .i64 q1,.int .i64 q2] 61);(have hz4:=hb4.size);(rw [ui] at hz4);(replace Z1:=(Z1.keep hb4).alloc (.cells #[.int .i64 q1,.int .i64 q2] 61));(have ⟨v0,v1,_,_,_⟩:=V.box))
  have hM:=(show dN w N a b x1 x2 x3 wr.heap.size _ _ from ⟨hG.out.below Bv,C.keep Bv,⟨by omega,Z1⟩,B.trans (Bv.mono B.size)⟩)
  have hS:=(show eC w N w4.heap.size (q1,q2) _ from ⟨by omega,V⟩)
  clear Bv C1 C C_c0 C_c1 z0 z1 z2 v0 v1 d0 d1 d2 PS Z1 V B hG hz4 hb4
  have hii:((i:Nat):Int)≤4:=by omega
  generalize w4.alloc (.cells #[.int .i64 q1,.int .i64 q2] 61)=wd at *
  generalize w4.heap.size=sb at *
  generalize wr.heap.size=pb at *
  have hM:=uh hM
  have hS:=uh hS
  refine Rg.tH (fun n W=>dN w N a b x1 x2 x3 pb (M.cj N (M.done i (i+n)) (M.fe a b l)) W∧eC w N sb (q1,q2) W) [7] [.slice (some ⟨w.heap.size+1,0,none⟩) N N,.int .i64 ((i:Nat):Int),.pointer (some ⟨w.heap.size+1,i,none⟩),.slice (some ⟨w.heap.size+1+1+i,0,none⟩) N N,.int .i64 ((i:Nat):Int),.agg #[.int .i64 q1,.int .i64 q2],.pointer (some ⟨w.heap.size+1+1+i,i*2,none⟩),undef] (by kernel_rfl) (by kernel_rfl) (by kernel_rfl) (by decide) (⟨hM.out.below (uk _ wd).drew,hS.out.below (uk _ wd).drew⟩) ⟨?_,?_,?_,?_,?_,?_,?_,?_,trivial⟩ ?_
  ·unfold Rg.bf
   rw [if_neg (by decide)]
   intro ac_ w_ n_ hn_ hJ hr
   refine ⟨rfl,?_⟩
   have e6:ac_.tmps[6]?=some (.slice (some ⟨w.heap.size+1,0,none⟩) N N):=hr 6 (by decide)
   go_simp
  ·unfold Rg.bf
   rw [if_neg (by decide)]
   intro ac_ w_ n_ hn_ hJ hr
   refine ⟨rfl,?_⟩
   have e8:ac_.tmps[8]?=some (.int .i64 ((i:Nat):Int)):=hr 8 (by decide)
   go_simp
  ·unfold Rg.bf
   rw [if_neg (by decide)]
   intro ac_ w_ n_ hn_ hJ hr
   refine ⟨rfl,?_⟩
   have e45:ac_.tmps[45]?=some (.slice (some ⟨w.heap.size+1,0,none⟩) N N):=hr 45 (by decide)
   have e46:ac_.tmps[46]?=some (.int .i64 ((i:Nat):Int)):=hr 46 (by decide)
   have hlt_:((i:Nat):Int)<(N:Int):=by omega
   first | (go_simp;done) | (go_simp;omega)
  ·unfold Rg.bf
   rw [if_neg (by decide)]
   intro ac_ w_ n_ hn_ hJ hr
   refine ⟨rfl,?_⟩
   have e47:ac_.tmps[47]?=some (.pointer (some ⟨w.heap.size+1,i,none⟩)):=hr 47 (by decide)
   have hr_:=dm.row hJ.1.1 (i:=i) (by omega)
   first | (go_simp;done)
  ·unfold Rg.bf
   rw [if_neg (by decide)]
   intro ac_ w_ n_ hn_ hJ hr
   refine ⟨rfl,?_⟩
   have e8:ac_.tmps[8]?=some (.int .i64 ((i:Nat):Int)):=hr 8 (by decide)
   go_simp
  ·unfold Rg.bf
   rw [if_neg (by decide)]
   intro ac_ w_ n_ hn_ hJ hr
   refine ⟨rfl,?_⟩
   have e10:ac_.tmps[10]?=some (.pointer (some ⟨sb,0,none⟩)):=hr 10 (by decide)
   have k0:=hJ.2.2.box.c0
   have k1:=hJ.2.2.box.c1
   go_simp
  ·unfold Rg.bf
   rw [if_neg (by decide)]
   intro ac_ w_ n_ hn_ hJ hr
   refine ⟨rfl,?_⟩
   have e48:ac_.tmps[48]?=some (.slice (some ⟨w.heap.size+1+1+i,0,none⟩) N N):=hr 48 (by decide)
   have e49:ac_.tmps[49]?=some (.int .i64 ((i:Nat):Int)):=hr 49 (by decide)
   have hlt_:((i:Nat):Int)<(N:Int):=by omega
   first | (go_simp;done) | (go_simp;omega)
  ·unfold Rg.bf
   rw [if_pos (by decide)]
   intro ac_ w_ hJ hr
   have e50:ac_.tmps[50]?=some (.agg #[.int .i64 q1,.int .i64 q2]):=hr 50 (by decide)
   have e51:ac_.tmps[51]?=some (.pointer (some ⟨w.heap.size+1+1+i,i*2,none⟩)):=hr 51 (by decide)
   refine ⟨rfl,?_⟩
   obtain ⟨hM_,hS_⟩:=hJ
   have hM_:dN w N a b x1 x2 x3 pb (M.cj N (M.done i i) (M.fe a b l)) w_:=hM_
   have ⟨y0,y1,x0_,x1_,xl_⟩:=dm.cells hM_.1 (i:=i) (j:=i) (M.dM _ _ (by omega)) (M.dl _ _ (by omega))
   have hlt_:((i:Nat):Int)<(N:Int):=by omega
   have hM3_:=dN.put hM_ (i:=i) (j:=i) (q:=(q1,q2)) (rows':=M.cj N (M.done i (i+1)) (M.fe a b l)) (M.dM _ _ (by omega)) (by omega) (by rw [←hqe.out];exact M.rC _ (by omega))
   have hS3_:=eC.put hS_ (i:=i) (j1:=i*2) (j2:=i*2+1) (u:=.int .i64 q1) (v:=.int .i64 q2) (by omega)
   clear hM_ hS_
   unfold Oper.wp
   go_simp
   all_goals first | exact hM3_ | exact ⟨hM3_,hS3_⟩
  intro vals wz hJ hv
  simp only [Rg.am,Rg.fill,Act.put,Nat.reduceAdd]
  clear hv
  obtain ⟨hM2,-⟩:=hJ
  have hM2:dN w N a b x1 x2 x3 pb (M.cj N (M.done i (i+1)) (M.fe a b l)) wz:=hM2
  clear hM hS hqe
  go_wp2
  go_loopw [12] (fun vk wq=>∃ k:Nat,i+1≤k∧k≤N∧vk=.int .i64 k∧Hid (∀ j,i≤j→j<k→(M.ent a b l i j).isSome=true)∧Hid (dN w N a b x1 x2 x3 pb (M.cj N (M.done i k) (M.fe a b l)) wq)) (fun vk _=>N - (intOf vk).toNat)
  case atStart=>exact ⟨i+1,ul _,by omega,by go_num,uh (fun j h1 h2=>by obtain rfl:j=i:=(by omega);exact hsm.out),uh hM2⟩
  case round=>
  clear hM2
  obtain ⟨k,hk1,hk2,rfl,hall2,hM⟩:=hrel
  by_cases hlt2:k<N
  ·obtain ⟨y,hy⟩:∃ y,l[k]?=some y:=⟨_,List.getElem?_eq_getElem (by have:=hN.out;omega)⟩
   have B:=hM.out.2.2.2
   obtain ⟨d0,d1,d2⟩:=(hpt.out.below B) k y hy
   have hpy:=hp.out y (List.mem_of_getElem? hy)
   have he:=M.k9 (a:=a) (b:=b) hx.out hy hk1
   clear hy
   obtain ⟨y1,y2,y3⟩:=y
   simp only [] at d0 d1 d2 hpy he
   have PP:=fun W=>pD a b x1 x2 x3 y1 y2 y3 W hg hpx hpy
   generalize M.dP a b x1 x2 x3 y1 y2 y3=ss at *
   have hni:=hno.out i k (by have:=hN.out;omega) (by have:=hN.out;omega)
   rw [he] at hni
   have C:=hM.out.2.1
   have Z:=hM.out.2.2.1.2
   have hgs:=hM.out.1.size (by omega)
   have hkk:((k:Nat):Int)<(N:Int):=by omega
   have hlt3:i<k:=hk1
   cases ss with
   | none=>
    have hfin:=uh (hni rfl)
    have hfr:=uh (hrn.out hfin.out)
    have e9:=uh (show M.slo none=0∧M.shi none=0∧(none:M.Sp).isSome=false from ⟨rfl,rfl,rfl⟩)
    rw [e9.out.1,e9.out.2.1,e9.out.2.2] at PP
    clear hni hno hrn e9 he
    replace PP:=uh PP
    go_upto_region 17 with fail
    refine Rg.tG 10 11 61 #[.int .i64 0,.int .i64 0] #[.int .i64 0,.int .i64 0] [.is (.agg #[.int .i64 a,.int .i64 b]),.is (.agg #[.int .i64 x1,.int .i64 x2,.int .i64 x3]),.is (.slice (some ⟨g,0,none⟩) N cap),.is (.int .i64 ((k:Nat):Int)),.is (.pointer (some ⟨g,k*3,none⟩)),.is (.agg #[.int .i64 y1,.int .i64 y2,.int .i64 y3]),.is (.tuple #[.agg #[.int .i64 0,.int .i64 0],.bool false]),.is (.tuple #[.agg #[.int .i64 0,.int .i64 0],.bool false]),.is (.agg #[.int .i64 0,.int .i64 0]),.is (.bool false),.is (undef),.is (undef),.is (.bool false)] (by kernel_rfl) (by kernel_rfl) (by kernel_rfl) (fun j h1 h2=>match j,h1,h2 with | 0,h1,h2=>rfl | 1,h1,h2=>rfl | 2,h1,h2=>rfl | 3,h1,h2=>rfl | 4,h1,h2=>rfl | 5,h1,h2=>rfl | 6,h1,h2=>rfl | 7,h1,h2=>rfl | 8,h1,h2=>rfl | 9,h1,h2=>rfl | 10,h1,h2=>absurd rfl h1 | 11,h1,h2=>absurd rfl h2 | 12,h1,h2=>rfl | n+13,_,_=>rfl) (by decide) ⟨?_,?_,?_,?_,?_,?_,?_,?_,?_,?_,?_,?_,?_,trivial⟩ ?_
    ·unfold Rg.bU
     rw [if_neg (by decide),if_neg (by decide)]
     intro ac_ w_ hB hr
     have e2:ac_.tmps[2]?=some (.pointer (some ⟨w.heap.size,0,none⟩)):=hr 2 (by decide)
     have k0:=aE hB C.box.c0
     have k1:=aE hB C.box.c1
     exact Rg.aG rfl (by go_simp)
    ·unfold Rg.bU
     rw [if_neg (by decide),if_neg (by decide)]
     intro ac_ w_ hB hr
     have e9:ac_.tmps[9]?=some (.pointer (some ⟨pb,0,none⟩)):=hr 9 (by decide)
     have k0:=aE hB Z.aQ.1
     have k1:=aE hB Z.aQ.2.1
     have k2:=aE hB Z.aQ.2.2
     exact Rg.aG rfl (by go_simp)
    ·unfold Rg.bU
     rw [if_neg (by decide),if_neg (by decide)]
     intro ac_ w_ hB hr
     have e1:ac_.tmps[1]?=some (.slice (some ⟨g,0,none⟩) N cap):=hr 1 (by decide)
     exact Rg.aG rfl (by go_simp)
    ·unfold Rg.bU
     rw [if_neg (by decide),if_neg (by decide)]
     intro ac_ w_ hB hr
     have e12:ac_.tmps[12]?=some (.int .i64 ((k:Nat):Int)):=hr 12 (by decide)
     exact Rg.aG rfl (by go_simp)
    ·unfold Rg.bU
     rw [if_neg (by decide),if_neg (by decide)]
     intro ac_ w_ hB hr
     have e63:=Rg.ev1 (hr 63 (by decide))
     have e64:=Rg.ev1 (hr 64 (by decide))
     exact Rg.aG rfl (by first | (go_simp;done) | (go_simp;omega))
    ·unfold Rg.bU
     rw [if_neg (by decide),if_neg (by decide)]
     intro ac_ w_ hB hr
     have e65:=Rg.ev1 (hr 65 (by decide))
     have k0:=aE hB d0
     have k1:=aE hB d1
     have k2:=aE hB d2
     exact Rg.aG rfl (by first | (go_simp;done))
    ·unfold Rg.bU
     rw [if_neg (by decide),if_neg (by decide)]
     intro ac_ w_ hB hr
     have e61:=Rg.ev1 (hr 61 (by decide))
     have e62:=Rg.ev1 (hr 62 (by decide))
     have e66:=Rg.ev1 (hr 66 (by decide))
     have ef:=Rg.ef ac_
     exact Rg.bK rfl (by go_simp) (PP.out _)
    ·unfold Rg.bU
     rw [if_neg (by decide),if_neg (by decide)]
     intro ac_ w_ hB hr
     have e67:=Rg.ev1 (hr 67 (by decide))
     exact Rg.aG rfl (by go_simp)
    ·unfold Rg.bU
     rw [if_neg (by decide),if_neg (by decide)]
     intro ac_ w_ hB hr
     have e60:=Rg.ev1 (hr 60 (by decide))
     exact Rg.aG rfl (by go_simp)
    ·unfold Rg.bU
     rw [if_neg (by decide),if_neg (by decide)]
     intro ac_ w_ hB hr
     have e60:=Rg.ev1 (hr 60 (by decide))
     exact Rg.aG rfl (by go_simp)
    ·unfold Rg.bU
     rw [if_pos rfl]
     intro ac_ w_
     exact Rg.mU rfl (by first | (go_simp;done) | (go_simp;rfl))
    ·unfold Rg.bU
     rw [if_neg (by decide),if_pos rfl]
     intro ac_ w_ h_ hh hn hr
     have e13:ac_.tmps[13]?=some (.pointer (some ⟨h_,0,none⟩)):=hr 13 (by decide)
     have e68:=Rg.ev1 (hr 68 (by decide))
     have ⟨y0,y1,x0,x1,_⟩:=hn.box
     refine ⟨rfl,?_⟩
     unfold Oper.wp
     go_simp
     exact ⟨aH.set2 hn _ _,uj (uj (uk _ _) hh _) hh _⟩
    ·unfold Rg.bU
     rw [if_neg (by decide),if_neg (by decide)]
     intro ac_ w_ hB hr
     have e69:=Rg.ev1 (hr 69 (by decide))
     exact Rg.aG rfl (by go_simp)
    intro vals wz h_ hh hn v_10 hB hv
    have v_12:vals 12=.bool false:=hv 12 (by decide) (by decide) (by decide)
    simp only [Rg.am,Rg.fill,Act.put,Nat.reduceAdd]
    clear hv
    simp only [v_10,v_12]
    clear v_10 v_12
    go_wp2
    go_ret2
    exact ⟨_,by rw [hfin.out];rfl,by rw [hfr.out];exact es.nil _ _,B.trans (hB.mono B.size)⟩
   | some q=>
   have hqe:M.fe a b l i k=q:=by unfold M.fe;rw [he];rfl
   have hqe:=uh hqe
   have hsm2:=uh (show (M.ent a b l i k).isSome=true by rw [he];rfl)
   obtain ⟨q1,q2⟩:=q
   have e1:M.slo (some (q1,q2))=q1:=rfl
   have e2:M.shi (some (q1,q2))=q2:=rfl
   have e5:(some (q1,q2):M.Sp).isSome=true:=rfl
   rw [e1,e2,e5] at PP
   clear hni he e1 e2 e5
   replace PP:=uh PP
   go_upto_region 17 with fail
   refine Rg.tG 10 11 61 #[.int .i64 0,.int .i64 0] #[.int .i64 q1,.int .i64 q2] [.is (.agg #[.int .i64 a,.int .i64 b]),.is (.agg #[.int .i64 x1,.int .i64 x2,.int .i64 x3]),.is (.slice (some ⟨g,0,none⟩) N cap),.is (.int .i64 ((k:Nat):Int)),.is (.pointer (some ⟨g,k*3,none⟩)),.is (.agg #[.int .i64 y1,.int .i64 y2,.int .i64 y3]),.is (.tuple #[.agg #[.int .i64 q1,.int .i64 q2],.bool true]),.is (.tuple #[.agg #[.int .i64 q1,.int .i64 q2],.bool true]),.is (.agg #[.int .i64 q1,.int .i64 q2]),.is (.bool true),.is (undef),.is (undef),.is (.bool true)] (by kernel_rfl) (by kernel_rfl) (by kernel_rfl) (fun j h1 h2=>match j,h1,h2 with | 0,h1,h2=>rfl | 1,h1,h2=>rfl | 2,h1,h2=>rfl | 3,h1,h2=>rfl | 4,h1,h2=>rfl | 5,h1,h2=>rfl | 6,h1,h2=>rfl | 7,h1,h2=>rfl | 8,h1,h2=>rfl | 9,h1,h2=>rfl | 10,h1,h2=>absurd rfl h1 | 11,h1,h2=>absurd rfl h2 | 12,h1,h2=>rfl | n+13,_,_=>rfl) (by decide) ⟨?_,?_,?_,?_,?_,?_,?_,?_,?_,?_,?_,?_,?_,trivial⟩ ?_
   ·unfold Rg.bU
    rw [if_neg (by decide),if_neg (by decide)]
    intro ac_ w_ hB hr
    have e2:ac_.tmps[2]?=some (.pointer (some ⟨w.heap.size,0,none⟩)):=hr 2 (by decide)
    have k0:=aE hB C.box.c0
    have k1:=aE hB C.box.c1
    exact Rg.aG rfl (by go_simp)
   ·unfold Rg.bU
    rw [if_neg (by decide),if_neg (by decide)]
    intro ac_ w_ hB hr
    have e9:ac_.tmps[9]?=some (.pointer (some ⟨pb,0,none⟩)):=hr 9 (by decide)
    have k0:=aE hB Z.aQ.1
    have k1:=aE hB Z.aQ.2.1
    have k2:=aE hB Z.aQ.2.2
    exact Rg.aG rfl (by go_simp)
   ·unfold Rg.bU
    rw [if_neg (by decide),if_neg (by decide)]
    intro ac_ w_ hB hr
    have e1:ac_.tmps[1]?=some (.slice (some ⟨g,0,none⟩) N cap):=hr 1 (by decide)
    exact Rg.aG rfl (by go_simp)
   ·unfold Rg.bU
    rw [if_neg (by decide),if_neg (by decide)]
    intro ac_ w_ hB hr
    have e12:ac_.tmps[12]?=some (.int .i64 ((k:Nat):Int)):=hr 12 (by decide)
    exact Rg.aG rfl (by go_simp)
   ·unfold Rg.bU
    rw [if_neg (by decide),if_neg (by decide)]
    intro ac_ w_ hB hr
    have e63:=Rg.ev1 (hr 63 (by decide))
    have e64:=Rg.ev1 (hr 64 (by decide))
    exact Rg.aG rfl (by first | (go_simp;done) | (go_simp;omega))
   ·unfold Rg.bU
    rw [if_neg (by decide),if_neg (by decide)]
    intro ac_ w_ hB hr
    have e65:=Rg.ev1 (hr 65 (by decide))
    have k0:=aE hB d0
    have k1:=aE hB d1
    have k2:=aE hB d2
    exact Rg.aG rfl (by first | (go_simp;done))
   ·unfold Rg.bU
    rw [if_neg (by decide),if_neg (by decide)]
    intro ac_ w_ hB hr
    have e61:=Rg.ev1 (hr 61 (by decide))
    have e62:=Rg.ev1 (hr 62 (by decide))
    have e66:=Rg.ev1 (hr 66 (by decide))
    have ef:=Rg.ef ac_
    exact Rg.bK rfl (by go_simp) (PP.out _)
   ·unfold Rg.bU
    rw [if_neg (by decide),if_neg (by decide)]
    intro ac_ w_ hB hr
    have e67:=Rg.ev1 (hr 67 (by decide))
    exact Rg.aG rfl (by go_simp)
   ·unfold Rg.bU
    rw [if_neg (by decide),if_neg (by decide)]
    intro ac_ w_ hB hr
    have e60:=Rg.ev1 (hr 60 (by decide))
    exact Rg.aG rfl (by go_simp)
   ·unfold Rg.bU
    rw [if_neg (by decide),if_neg (by decide)]
    intro ac_ w_ hB hr
    have e60:=Rg.ev1 (hr 60 (by decide))
    exact Rg.aG rfl (by go_simp)
   ·unfold Rg.bU
    rw [if_pos rfl]
    intro ac_ w_
    exact Rg.mU rfl (by first | (go_simp;done) | (go_simp;rfl))
   ·unfold Rg.bU
    rw [if_neg (by decide),if_pos rfl]
    intro ac_ w_ h_ hh hn hr
    have e13:ac_.tmps[13]?=some (.pointer (some ⟨h_,0,none⟩)):=hr 13 (by decide)
    have e68:=Rg.ev1 (hr 68 (by decide))
    have ⟨y0,y1,x0,x1,_⟩:=hn.box
    refine ⟨rfl,?_⟩
    unfold Oper.wp
    go_simp
    exact ⟨aH.set2 hn _ _,uj (uj (uk _ _) hh _) hh _⟩
   ·unfold Rg.bU
    rw [if_neg (by decide),if_neg (by decide)]
    intro ac_ w_ hB hr
    have e69:=Rg.ev1 (hr 69 (by decide))
    exact Rg.aG rfl (by go_simp)
   intro vals wz h_ hh hn v_10 hB hv
   have v_12:vals 12=.bool true:=hv 12 (by decide) (by decide) (by decide)
   simp only [Rg.am,Rg.fill,Act.put,Nat.reduceAdd]
   clear hv
   simp only [v_10,v_12]
   clear v_10 v_12
   have hM2:=uh (hM.out.below hB)
   have hS:=uh (show eC w N h_ (q1,q2) wz from ⟨by omega,hn⟩)
   clear hn hB hM d0 d1 d2 PP C Z B
   go_upto_region 20 with fail
   have hkk4:((k:Nat):Int)≤4:=by omega
   refine Rg.tH (fun n W=>dN w N a b x1 x2 x3 pb (M.cj N (M.ud i k n) (M.fe a b l)) W∧eC w N h_ (q1,q2) W) [13,15] [.slice (some ⟨w.heap.size+1,0,none⟩) N N,.int .i64 ((i:Nat):Int),.pointer (some ⟨w.heap.size+1,i,none⟩),.slice (some ⟨w.heap.size+1+1+i,0,none⟩) N N,.int .i64 ((k:Nat):Int),.slice (some ⟨w.heap.size+1,0,none⟩) N N,.int .i64 ((k:Nat):Int),.pointer (some ⟨w.heap.size+1,k,none⟩),.slice (some ⟨w.heap.size+1+1+k,0,none⟩) N N,.int .i64 ((i:Nat):Int),.agg #[.int .i64 q1,.int .i64 q2],.agg #[.int .i64 q1,.int .i64 q2],.pointer (some ⟨w.heap.size+1+1+i,k*2,none⟩),undef,.pointer (some ⟨w.heap.size+1+1+k,i*2,none⟩),undef] (by kernel_rfl) (by kernel_rfl) (by kernel_rfl) (by decide) (⟨hM2.out.below (uk _ wz).drew,hS.out.below (uk _ wz).drew⟩) ⟨?_,?_,?_,?_,?_,?_,?_,?_,?_,?_,?_,?_,?_,?_,?_,?_,trivial⟩ ?_
   ·unfold Rg.bf
    rw [if_neg (by decide)]
    intro ac_ w_ n_ hn_ hJ hr
    refine ⟨rfl,?_⟩
    have e6:ac_.tmps[6]?=some (.slice (some ⟨w.heap.size+1,0,none⟩) N N):=hr 6 (by decide)
    go_simp
   ·unfold Rg.bf
    rw [if_neg (by decide)]
    intro ac_ w_ n_ hn_ hJ hr
    refine ⟨rfl,?_⟩
    have e8:ac_.tmps[8]?=some (.int .i64 ((i:Nat):Int)):=hr 8 (by decide)
    go_simp
   ·unfold Rg.bf
    rw [if_neg (by decide)]
    intro ac_ w_ n_ hn_ hJ hr
    refine ⟨rfl,?_⟩
    have e72:ac_.tmps[72]?=some (.slice (some ⟨w.heap.size+1,0,none⟩) N N):=hr 72 (by decide)
    have e73:ac_.tmps[73]?=some (.int .i64 ((i:Nat):Int)):=hr 73 (by decide)
    have hlt_:((i:Nat):Int)<(N:Int):=by omega
    first | (go_simp;done) | (go_simp;omega)
   ·unfold Rg.bf
    rw [if_neg (by decide)]
    intro ac_ w_ n_ hn_ hJ hr
    refine ⟨rfl,?_⟩
    have e74:ac_.tmps[74]?=some (.pointer (some ⟨w.heap.size+1,i,none⟩)):=hr 74 (by decide)
    have hr_:=dm.row hJ.1.1 (i:=i) (by omega)
    first | (go_simp;done)
   ·unfold Rg.bf
    rw [if_neg (by decide)]
    intro ac_ w_ n_ hn_ hJ hr
    refine ⟨rfl,?_⟩
    have e12:ac_.tmps[12]?=some (.int .i64 ((k:Nat):Int)):=hr 12 (by decide)
    go_simp
   ·unfold Rg.bf
    rw [if_neg (by decide)]
    intro ac_ w_ n_ hn_ hJ hr
    refine ⟨rfl,?_⟩
    have e6:ac_.tmps[6]?=some (.slice (some ⟨w.heap.size+1,0,none⟩) N N):=hr 6 (by decide)
    go_simp
   ·unfold Rg.bf
    rw [if_neg (by decide)]
    intro ac_ w_ n_ hn_ hJ hr
    refine ⟨rfl,?_⟩
    have e12:ac_.tmps[12]?=some (.int .i64 ((k:Nat):Int)):=hr 12 (by decide)
    go_simp
   ·unfold Rg.bf
    rw [if_neg (by decide)]
    intro ac_ w_ n_ hn_ hJ hr
    refine ⟨rfl,?_⟩
    have e77:ac_.tmps[77]?=some (.slice (some ⟨w.heap.size+1,0,none⟩) N N):=hr 77 (by decide)
    have e78:ac_.tmps[78]?=some (.int .i64 ((k:Nat):Int)):=hr 78 (by decide)
    have hlt_:((k:Nat):Int)<(N:Int):=by omega
    first | (go_simp;done) | (go_simp;omega)
   ·unfold Rg.bf
    rw [if_neg (by decide)]
    intro ac_ w_ n_ hn_ hJ hr
    refine ⟨rfl,?_⟩
    have e79:ac_.tmps[79]?=some (.pointer (some ⟨w.heap.size+1,k,none⟩)):=hr 79 (by decide)
    have hr_:=dm.row hJ.1.1 (i:=k) (by omega)
    first | (go_simp;done)
   ·unfold Rg.bf
    rw [if_neg (by decide)]
    intro ac_ w_ n_ hn_ hJ hr
    refine ⟨rfl,?_⟩
    have e8:ac_.tmps[8]?=some (.int .i64 ((i:Nat):Int)):=hr 8 (by decide)
    go_simp
   ·unfold Rg.bf
    rw [if_neg (by decide)]
    intro ac_ w_ n_ hn_ hJ hr
    refine ⟨rfl,?_⟩
    have e13:ac_.tmps[13]?=some (.pointer (some ⟨h_,0,none⟩)):=hr 13 (by decide)
    have k0:=hJ.2.2.box.c0
    have k1:=hJ.2.2.box.c1
    go_simp
   ·unfold Rg.bf
    rw [if_neg (by decide)]
    intro ac_ w_ n_ hn_ hJ hr
    refine ⟨rfl,?_⟩
    have e13:ac_.tmps[13]?=some (.pointer (some ⟨h_,0,none⟩)):=hr 13 (by decide)
    have k0:=hJ.2.2.box.c0
    have k1:=hJ.2.2.box.c1
    go_simp
   ·unfold Rg.bf
    rw [if_neg (by decide)]
    intro ac_ w_ n_ hn_ hJ hr
    refine ⟨rfl,?_⟩
    have e75:ac_.tmps[75]?=some (.slice (some ⟨w.heap.size+1+1+i,0,none⟩) N N):=hr 75 (by decide)
    have e76:ac_.tmps[76]?=some (.int .i64 ((k:Nat):Int)):=hr 76 (by decide)
    have hlt_:((k:Nat):Int)<(N:Int):=by omega
    first | (go_simp;done) | (go_simp;omega)
   ·unfold Rg.bf
    rw [if_pos (by decide)]
    intro ac_ w_ hJ hr
    have e82:ac_.tmps[82]?=some (.agg #[.int .i64 q1,.int .i64 q2]):=hr 82 (by decide)
    have e84:ac_.tmps[84]?=some (.pointer (some ⟨w.heap.size+1+1+i,k*2,none⟩)):=hr 84 (by decide)
    refine ⟨rfl,?_⟩
    obtain ⟨hM_,hS_⟩:=hJ
    have hM_:dN w N a b x1 x2 x3 pb (M.cj N (M.done i k) (M.fe a b l)) w_:=hM_
    have ⟨y0,y1,x0_,x1_,xl_⟩:=dm.cells hM_.1 (i:=i) (j:=k) (M.dM _ _ (by omega)) (M.dl _ _ (by omega))
    have hlt_:((k:Nat):Int)<(N:Int):=by omega
    have hM3_:=dN.put hM_ (i:=i) (j:=k) (q:=(q1,q2)) (rows':=M.cj N (M.half i k) (M.fe a b l)) (M.dM _ _ (by omega)) (by omega) (by rw [←hqe.out];exact M.sZ _ (by omega) (by omega))
    have hS3_:=eC.put hS_ (i:=i) (j1:=k*2) (j2:=k*2+1) (u:=.int .i64 q1) (v:=.int .i64 q2) (by omega)
    clear hM_ hS_
    unfold Oper.wp
    go_simp
    all_goals first | exact hM3_ | exact ⟨hM3_,hS3_⟩
   ·unfold Rg.bf
    rw [if_neg (by decide)]
    intro ac_ w_ n_ hn_ hJ hr
    refine ⟨rfl,?_⟩
    have e80:ac_.tmps[80]?=some (.slice (some ⟨w.heap.size+1+1+k,0,none⟩) N N):=hr 80 (by decide)
    have e81:ac_.tmps[81]?=some (.int .i64 ((i:Nat):Int)):=hr 81 (by decide)
    have hlt_:((i:Nat):Int)<(N:Int):=by omega
    first | (go_simp;done) | (go_simp;omega)
   ·unfold Rg.bf
    rw [if_pos (by decide)]
    intro ac_ w_ hJ hr
    have e83:ac_.tmps[83]?=some (.agg #[.int .i64 q1,.int .i64 q2]):=hr 83 (by decide)
    have e85:ac_.tmps[85]?=some (.pointer (some ⟨w.heap.size+1+1+k,i*2,none⟩)):=hr 85 (by decide)
    refine ⟨rfl,?_⟩
    obtain ⟨hM_,hS_⟩:=hJ
    have hM_:dN w N a b x1 x2 x3 pb (M.cj N (M.half i k) (M.fe a b l)) w_:=hM_
    have ⟨y0,y1,x0_,x1_,xl_⟩:=dm.cells hM_.1 (i:=k) (j:=i) (M.dM _ _ (by omega)) (M.dl _ _ (by omega))
    have hlt_:((i:Nat):Int)<(N:Int):=by omega
    have hM3_:=dN.put hM_ (i:=k) (j:=i) (q:=(q1,q2)) (rows':=M.cj N (M.done i (k+1)) (M.fe a b l)) (M.dM _ _ (by omega)) (by omega) (by rw [←hqe.out];exact M.sc _ (M.tY _ _ _ _ _) (by omega) (by omega))
    have hS3_:=eC.put hS_ (i:=k) (j1:=i*2) (j2:=i*2+1) (u:=.int .i64 q1) (v:=.int .i64 q2) (by omega)
    clear hM_ hS_
    unfold Oper.wp
    go_simp
    all_goals first | exact hM3_ | exact ⟨hM3_,hS3_⟩
   intro vals wy hJ hv
   simp only [Rg.am,Rg.fill,Act.put,Nat.reduceAdd]
   clear hv
   obtain ⟨hM3,-⟩:=hJ
   have hM3:dN w N a b x1 x2 x3 pb (M.cj N (M.done i (k+1)) (M.fe a b l)) wy:=hM3
   clear hM2 hS hqe
   go_wp2
   go_roundw
   case rel=>exact ⟨k+1,by omega,by omega,by go_num,uh (fun j h1 h2=>by
    rcases Nat.lt_or_ge j k with h3 | h3
    ·exact hall2.out j h1 h3
    obtain rfl:j=k:=by omega
    exact hsm2.out),uh hM3⟩
   case measure=>simp [intOf] <;> omega
  obtain rfl:N=k:=by omega
  have hM3:=hM.out
  have hd:=M.oh (n:=N) (i:=i) (M.fe a b l)
  have hG3:=hM3.1
  rw [hd] at hG3
  have hG3:=uh hG3
  clear hd
  have hal:∀ i',i'<i+1→∀ j,j<l.length→(M.ent a b l i' j).isSome=true:=fun i' h j hj=>by
   rcases Nat.lt_or_ge i' i with q | q
   ·exact hall.out i' q j hj
   obtain rfl:i'=i:=by omega
   rcases Nat.lt_or_ge j i' with q2 | q2
   ·rw [M.iE];exact hall.out j q2 i' (by have:=hN.out;omega)
   exact hall2.out j q2 (by have:=hN.out;omega)
  have hal:=uh hal
  have C3:=hM3.2.1
  have B3:=hM3.2.2.2
  clear hM3 hM
  go_wp2
  go_roundw
  case rel=>exact ⟨i+1,by omega,by go_num,hal,hG3,C3,B3⟩
  case measure=>simp [intOf] <;> omega
 obtain rfl:N=i:=by omega
 have hyes:=uh (M.nv (a:=a) (b:=b) (l:=l) (fun i' h=>hall.out i' (by have:=hN.out;omega)))
 have hrows:=uh (M.pC hyes.out)
 have hG4:=hG.out.mat (base:=w.heap.size) (by omega) (by omega)
 have hG4:=uh hG4
 clear hG
 go_wp2
 go_ret2
 exact ⟨_,by rw [hyes.out];rfl,by rw [hrows.out,hN.out];exact hG4.out,B⟩
theorem Rw.From.below {α:Type} {E:Rw.Enc α} {w w':World} {A:Option Addr} {ys:List α} (h:Rw.From E w A ys) (hb:Below w.heap.size w w'):Rw.From E w' A ys:=fun j u hu=>by
 obtain ⟨ad,e,hc⟩:=h j u hu
 exact ⟨ad,e,aE hb hc⟩
theorem dK {W:World} {base g i k n:Nat} {t T:TypeId} {v:Value} {vs:List Value} {ys:Array Value} (h:W.ownsRow base t k v n vs) (hv:aH W g T ys) (hT:T≠t) (x:Value):(W.setCell ⟨g,i,none⟩ x).ownsRow base t k v n vs:=by
 have hap:v.ownBlock≠some g:=by
  intro e
  rcases h.2 with ⟨rfl,-⟩ | ⟨g1,c1,cur1,rfl,-,hh1,-⟩
  ·cases e
  simp only [Value.ownBlock,Option.some.injEq] at e
  subst e
  unfold aH at hv
  rw [hh1] at hv
  injection hv with hv
  injection hv with _ h2
  exact hT h2.symm
 refine World.ownsRow.kept (row:=some g) h ⟨rfl,rfl,rfl,by simp [go_sem],fun k hk hne=>?_⟩ (Or.inr hap)
 rw [World.setCell]
 show (W.heap.modify g _)[k]?=_
 rw [Array.getElem?_modify,if_neg (fun e=>hne (by rw [e]))]
theorem bj.dZ {W:World} {base g i:Nat} {T:TypeId} {v:Value} {vs:List Value} {rows:List (List (Int × Int))} {ys:Array Value} (h:bj W base v vs rows) (hv:aH W g T ys) (hT:T≠61) (hT2:T≠59) (x:Value):bj (W.setCell ⟨g,i,none⟩ x) base v vs rows:=by
 obtain ⟨h1,h2,h3,h4⟩:=h
 exact ⟨dK h1 hv hT2 x,h2,fun i u r hu hr=>dK (h3 i u r hu hr) hv hT x,h4⟩
theorem es.dZ {W:World} {base g i:Nat} {T:TypeId} {v:Value} {rows:List (List (Int × Int))} {ys:Array Value} (h:es W base v rows) (hv:aH W g T ys) (hT:T≠61) (hT2:T≠59) (x:Value):es (W.setCell ⟨g,i,none⟩ x) base v rows:=h.elim fun vs k=>⟨vs,k.dZ hv hT hT2 x⟩
theorem bj.fresh {w w':World} {base b2:Nat} {v u:Value} {vs:List Value} {rows:List (List (Int × Int))} {r:List (Int × Int)} (h:bj w base v vs rows) (hu:Rw.Own EP w' b2 u r) (hb:w.heap.size≤b2):∀ g,u.ownBlock=some g→∀ z ∈ vs,z.ownBlock≠some g:=fun g hg z hz e=>by
 have h1:=(h.lt z hz g e).2
 have h2:=(hu.lt g hg).1
 omega
theorem Rw.From.cut {α:Type} {E:Rw.Enc α} {w:World} {g:Nat} {r:List α} (h:Rw.From E w (some ⟨g,0,none⟩) r) (c:Nat):Rw.From E w (some ⟨g,0,none⟩) (r.take c):=fun j u hu=>by
 rw [Rw.gR,List.getElem?_take] at hu
 split at hu
 ·exact h j u hu
 cases hu
theorem Rw.From.rest {α:Type} {E:Rw.Enc α} {w:World} {g:Nat} {r:List α} (h:Rw.From E w (some ⟨g,0,none⟩) r) (c:Nat):Rw.From E w (some ⟨g,c*E.k,none⟩) (r.drop c):=fun j u hu=>by
 rw [Rw.ol,List.getElem?_drop] at hu
 obtain ⟨ad,e,hc⟩:=h _ u hu
 refine ⟨_,rfl,?_⟩
 have:=Option.some.inj e
 subst this
 have hadd2:∀ b i j:Nat,(⟨b,i,none⟩:Addr).add j=⟨b,i+j,none⟩:=fun b i j=>by unfold Addr.add;split <;> simp_all
 rw [hadd2] at hc ⊢
 rw [Nat.zero_add] at hc
 exact hc
theorem bw.dZ {W:World} {base g i:Nat} {T:TypeId} {v:Value} {vs:List Value} {rows:List (List (Int × Int × Int × Int))} {ys:Array Value} (h:bw W base v vs rows) (hv:aH W g T ys) (hT:T≠42) (hT2:T≠38) (x:Value):bw (W.setCell ⟨g,i,none⟩ x) base v vs rows:=by
 obtain ⟨h1,h2,h3,h4⟩:=h
 exact ⟨dK h1 hv hT2 x,h2,fun i u r hu hr=>dK (h3 i u r hu hr) hv hT x,h4⟩
theorem dG.dZ {W:World} {base g i:Nat} {T:TypeId} {v:Value} {rows:List (List (Int × Int × Int × Int))} {ys:Array Value} (h:dG W base v rows) (hv:aH W g T ys) (hT:T≠42) (hT2:T≠38) (x:Value):dG (W.setCell ⟨g,i,none⟩ x) base v rows:=h.elim fun vs k=>⟨vs,k.dZ hv hT hT2 x⟩
theorem bw.fresh {w w':World} {base b2:Nat} {v u:Value} {vs:List Value} {rows:List (List (Int × Int × Int × Int))} {r:List (Int × Int × Int × Int)} (h:bw w base v vs rows) (hu:Rw.Own EN w' b2 u r) (hb:w.heap.size≤b2):∀ g,u.ownBlock=some g→∀ z ∈ vs,z.ownBlock≠some g:=fun g hg z hz e=>by
 have h1:=(h.lt z hz g e).2
 have h2:=(hu.lt g hg).1
 omega
namespace M
theorem eP {α:Type} {l:List α} {i:Nat} {x:α} (h:l[i]?=some x):l.take (i+1)=l.take i ++ [x]:=by
 rw [List.take_add_one,h]
 rfl
end M
theorem bj.rowIs {w:World} {base:Nat} {v:Value} {vs:List Value} {rows:List (List (Int × Int))} (h:bj w base v vs rows) {i:Nat} {r:List (Int × Int)} (hr:rows[i]?=some r) (hne:r≠[]) :
  ∃ (g2 cap2:Nat),vs[i]?=some (.slice (some ⟨g2,0,none⟩) r.length cap2)∧r.length≤cap2∧g2<w.heap.size:=by
 have hi:=(List.getElem?_eq_some_iff.1 hr).1
 have hl:=h.2.1
 have hu:vs[i]?=some (vs[i]'(by omega)):=List.getElem?_eq_getElem (by omega)
 rcases (h.2.2.1 i _ r hu hr).forms with ⟨-,h4⟩ | ⟨g2,cap2,e,hg,hg2,hc2,-⟩
 ·exact absurd h4 hne
 exact ⟨g2,cap2,by rw [hu,e],hc2,hg2⟩
theorem bj.form {w:World} {base:Nat} {v:Value} {vs:List Value} {rows:List (List (Int × Int))} (h:bj w base v vs rows) (hne:rows≠[]):∃ (g cap:Nat),v=.slice (some ⟨g,0,none⟩) rows.length cap∧rows.length≤cap∧cap≤9223372036854775807∧g<w.heap.size:=by
 rcases h.1.2 with ⟨-,h2⟩ | ⟨g,cap,cur,e,hg,hh,hc,hm,-⟩
 ·exact absurd (List.eq_nil_of_length_eq_zero h2) hne
 exact ⟨g,cap,e,hc,by unfold maxLen at hm;omega,(Array.getElem?_eq_some_iff.1 hh).1⟩
theorem bj.oI {w:World} {base g n cap:Nat} {vs:List Value} {rows:List (List (Int × Int))} (h:bj w base (.slice (some ⟨g,0,none⟩) n cap) vs rows) {i:Nat} {u:Value} (hu:vs[i]?=some u):w.cell? ⟨g,i,none⟩=some u:=by
 have hi:=(List.getElem?_eq_some_iff.1 hu).1
 have hl:=h.2.1
 have h1:=h.1
 rcases h1.2 with ⟨e,-⟩ | ⟨g1,c1,cur1,e,-⟩
 ·cases e
 injection e with _ e2 _
 subst e2
 exact (World.ownsRow.cellAt h1 i (by omega)).trans hu
theorem bj.rowFrom {w:World} {base:Nat} {v:Value} {vs:List Value} {rows:List (List (Int × Int))} (h:bj w base v vs rows) {i g2 cap2 n2:Nat} {r:List (Int × Int)} (hu:vs[i]?=some (.slice (some ⟨g2,0,none⟩) n2 cap2)) (hr:rows[i]?=some r):Rw.From EP w (some ⟨g2,0,none⟩) r:=by
 have ho:=h.2.2.1 i _ r hu hr
 rcases ho.forms with ⟨e,-⟩ | ⟨g3,cap3,e,hg,hg3,hc3,-⟩
 ·cases e
 injection e with e1 e2 e3
 have:=ho.tE e2 (ho.lt g2 rfl).2 (uk _ w) r.length
 rw [List.take_length] at this
 exact this
theorem Rw.From.at2 {w:World} {g c:Nat} {r:List (Int × Int)} {q:Int × Int} (h:Rw.From EP w (some ⟨g,0,none⟩) r) (hq:r[c]?=some q):w.cell? ⟨g,c*2,none⟩=some (.int .i64 q.1)∧w.cell? ⟨g,c*2+1,none⟩=some (.int .i64 q.2):=by
 have hadd:∀ b i:Nat,(⟨b,0,none⟩:Addr).add i=⟨b,i,none⟩:=fun b i=>by unfold Addr.add;split <;> simp_all
 have hc:∀ (t:Nat) (u:Value),t<2→(EP.cells q)[t]?=some u→w.cell? ⟨g,c*2+t,none⟩=some u:=fun t u ht hu=>by
  obtain ⟨ad,e,hh⟩:=h (c*2+t) u ((Rw.flat_get EP r c t q hq ht).trans hu)
  have:=Option.some.inj e
  subst this
  rw [hadd] at hh
  exact hh
 exact ⟨hc 0 _ (by decide) rfl,hc 1 _ (by decide) rfl⟩
theorem bj.held {w1 w:World} {base g:Nat} {T:TypeId} {v x:Value} {vs:List Value} {rows:List (List (Int × Int))} (h:bj w1 base v vs rows) (hH:Rg.Held w1 g w) (K:aH w1 g T #[x]) (hT:T≠61) (hT2:T≠59):bj w base v vs rows:=by
 have key:∀ {t:TypeId} {k n:Nat} {u:Value} {zs:List Value},w1.ownsRow base t k u n zs→T≠t→w.ownsRow base t k u n zs:=fun {t k n u zs} h ht=>by
  refine ⟨h.1,?_⟩
  rcases h.2 with h2 | ⟨g1,c1,cur1,e,h3,h4,h5⟩
  ·exact Or.inl h2
  have hne:g1≠g:=fun e2=>by
   subst e2
   unfold aH at K
   rw [h4] at K
   injection K with K
   injection K with _ K2
   exact ht K2.symm
  exact Or.inr ⟨g1,c1,cur1,e,h3,hH.2 g1 t cur1 hne h4,h5⟩
 obtain ⟨h1,h2,h3,h4⟩:=h
 exact ⟨key h1 hT2,h2,fun i u r hu hr=>key (h3 i u r hu hr) hT,h4⟩
theorem bw.rowIs {w:World} {base:Nat} {v:Value} {vs:List Value} {rows:List (List (Int × Int × Int × Int))} (h:bw w base v vs rows) {i:Nat} {r:List (Int × Int × Int × Int)} (hr:rows[i]?=some r) (hne:r≠[]) :
  ∃ (g2 cap2:Nat),vs[i]?=some (.slice (some ⟨g2,0,none⟩) r.length cap2)∧r.length≤cap2∧g2<w.heap.size:=by
 have hi:=(List.getElem?_eq_some_iff.1 hr).1
 have hl:=h.2.1
 have hu:vs[i]?=some (vs[i]'(by omega)):=List.getElem?_eq_getElem (by omega)
 rcases (h.2.2.1 i _ r hu hr).forms with ⟨-,h4⟩ | ⟨g2,cap2,e,hg,hg2,hc2,-⟩
 ·exact absurd h4 hne
 exact ⟨g2,cap2,by rw [hu,e],hc2,hg2⟩
theorem bw.form {w:World} {base:Nat} {v:Value} {vs:List Value} {rows:List (List (Int × Int × Int × Int))} (h:bw w base v vs rows) (hne:rows≠[]):∃ (g cap:Nat),v=.slice (some ⟨g,0,none⟩) rows.length cap∧rows.length≤cap∧cap≤9223372036854775807∧g<w.heap.size:=by
 rcases h.1.2 with ⟨-,h2⟩ | ⟨g,cap,cur,e,hg,hh,hc,hm,-⟩
 ·exact absurd (List.eq_nil_of_length_eq_zero h2) hne
 exact ⟨g,cap,e,hc,by unfold maxLen at hm;omega,(Array.getElem?_eq_some_iff.1 hh).1⟩
theorem bw.oI {w:World} {base g n cap:Nat} {vs:List Value} {rows:List (List (Int × Int × Int × Int))} (h:bw w base (.slice (some ⟨g,0,none⟩) n cap) vs rows) {i:Nat} {u:Value} (hu:vs[i]?=some u):w.cell? ⟨g,i,none⟩=some u:=by
 have hi:=(List.getElem?_eq_some_iff.1 hu).1
 have hl:=h.2.1
 have h1:=h.1
 rcases h1.2 with ⟨e,-⟩ | ⟨g1,c1,cur1,e,-⟩
 ·cases e
 injection e with _ e2 _
 subst e2
 exact (World.ownsRow.cellAt h1 i (by omega)).trans hu
theorem bw.rowFrom {w:World} {base:Nat} {v:Value} {vs:List Value} {rows:List (List (Int × Int × Int × Int))} (h:bw w base v vs rows) {i g2 cap2 n2:Nat} {r:List (Int × Int × Int × Int)} (hu:vs[i]?=some (.slice (some ⟨g2,0,none⟩) n2 cap2)) (hr:rows[i]?=some r):Rw.From EN w (some ⟨g2,0,none⟩) r:=by
 have ho:=h.2.2.1 i _ r hu hr
 rcases ho.forms with ⟨e,-⟩ | ⟨g3,cap3,e,hg,hg3,hc3,-⟩
 ·cases e
 injection e with e1 e2 e3
 have:=ho.tE e2 (ho.lt g2 rfl).2 (uk _ w) r.length
 rw [List.take_length] at this
 exact this
abbrev IvM:=List (List (Int × Int × Int × Int))
namespace M
noncomputable def ivM (m:Mat):IvM:=m.map fun r=>r.map fun q=>ivc (some q)
theorem td {m:Mat} {i:Nat} {r:List (Int × Int)} (h:m[i]?=some r):(ivM m)[i]?=some (r.map fun q=>ivc (some q)):=by
 unfold ivM
 rw [List.getElem?_map,h]
 rfl
theorem nt (m:Mat):(ivM m).length=m.length:=by unfold ivM;rw [List.length_map]
end M
namespace M
theorem sQ {a b:Int} {l:List Pt} {i j:Nat}:okS (ent a b l i j):=by
 have hp:∀ X1 Y1 E1 X2 Y2 E2,okS (dP a b X1 Y1 E1 X2 Y2 E2):=fun X1 Y1 E1 X2 Y2 E2=>by
  unfold dP
  split
  ·exact kK
  exact fB
 unfold ent
 split
 ·split
  ·exact sP
  split <;> exact hp _ _ _ _ _ _
 exact fB
theorem mF {s:Sp} (h:s.isSome=true):some (spc s)=s:=by
 cases s with
 | none=>cases h
 | some p=>rfl
theorem nc {a b:Int} {l:List Pt} (h:mOk a b l=true) {i j:Nat} (hi:i<l.length) (hj:j<l.length):(ent a b l i j).isSome=true:=by
 unfold mOk at h
 simp only [List.all_eq_true,List.mem_range] at h
 exact h i hi j hj
theorem jE {a b:Int} {l:List Pt} (h:mOk a b l=true):eN a b l=(List.range l.length).map (fun i=>(List.range l.length).map fun j=>spc (ent a b l i j)):=by
 unfold eN
 rw [h]
 rfl
theorem lZ {a b:Int} {l:List Pt} (h:mOk a b l=true):tv l.length (eN a b l):=by
 rw [jE h]
 refine ⟨by rw [List.length_map,List.length_range],fun r hr=>?_⟩
 obtain ⟨i,hi,rfl⟩:=List.mem_map.1 hr
 rw [List.length_map,List.length_range]
theorem lY {a b:Int} {l:List Pt} (h:mOk a b l=true):okM (eN a b l):=by
 rw [jE h]
 intro r hr q hq
 obtain ⟨i,hi,rfl⟩:=List.mem_map.1 hr
 obtain ⟨j,hj,rfl⟩:=List.mem_map.1 hq
 have:=nc h (List.mem_range.1 hi) (List.mem_range.1 hj)
 exact sQ (a:=a) (b:=b) (l:=l) (i:=i) (j:=j) _ (mF this).symm
theorem qm {a b:Int} {l:List Pt} (h:mOk a b l=true):jA a b l=ivM (eN a b l):=by
 rw [jg h,jE h]
 unfold ivM hP
 rw [List.map_map]
 refine List.map_congr_left fun i hi=>?_
 simp only [Function.comp,List.map_map]
 refine List.map_congr_left fun j hj=>?_
 simp only [Function.comp]
 rw [mF (nc h (List.mem_range.1 hi) (List.mem_range.1 hj))]
end M
end
end Go.Proofs.YtgfkcoablfjbcaaGreatDoor
