/-
  Joined texts: contracts and plain lemmas.
-/
import Derived.Test.YthfjndmdalfloaaGreatV24
import Derived.Test.YthfjndmdalfloaaGreatV23
set_option linter.unusedSimpArgs false
set_option linter.unusedVariables false
set_option maxRecDepth 100000
set_option maxHeartbeats 8000000
namespace Go.Proofs.YthfjndmdalfloaaGreat
section
open Go.RowKit
namespace M
theorem pl_whole {n:Int} (h1:-144≤n) (h2:n≤144):pn (n*4096)=n∧pd (n*4096)=1:=by
 have hg:M.gcd (n*4096) 4096=4096:=by
  unfold M.gcd Int.gcd
  rw [Int.natAbs_mul]
  show ((Nat.gcd (n.natAbs*4096) 4096:Nat):Int)=4096
  rw [Nat.gcd_mul_left_left]
  rfl
 have hf:=eS (a:=n*4096) (g:=4096) (q:=1) (n:=n) hg (by decide) (by decide) rfl
 have ho:ck n 1=true:=by
  unfold ck
  simp [M.ins,M.gcd]
  omega
 rw [ho,if_pos rfl] at hf
 unfold pn pd
 rw [hf]
 exact ⟨rfl,rfl⟩
end M
theorem jk (p:Int × Int) (n:Int) (w:World) (hp:M.spanOk p.1 p.2=true) (h1:-144≤n) (h2:n≤144) :
  Calls Tryz.prog 35 #[.agg #[.int .i64 (M.in1 (some p)),.int .i64 (M.in2 (some p)),.int .i64 (M.in3 (some p)),.int .i64 (M.in4 (some p))],.int .i64 n] w fun e w'=>e=.returned (.tuple #[.agg #[.int .i64 (M.in1 (M.mulS (some (n*4096,n*4096)) (some p))),.int .i64 (M.in2 (M.mulS (some (n*4096,n*4096)) (some p))),.int .i64 (M.in3 (M.mulS (some (n*4096,n*4096)) (some p))),.int .i64 (M.in4 (M.mulS (some (n*4096,n*4096)) (some p)))],.bool (M.mulS (some (n*4096,n*4096)) (some p)).isSome])∧Below w.heap.size w w':=by
 have PM:=fun W=>gK (n*4096,n*4096) p W (by unfold M.spanOk;simp;omega) hp
 obtain ⟨k1,k2⟩:=M.pl_whole h1 h2
 have e1:M.in1 (some (n*4096,n*4096))=n:=k1
 have e2:M.in2 (some (n*4096,n*4096))=1:=k2
 have e3:M.in3 (some (n*4096,n*4096))=n:=k1
 have e4:M.in4 (some (n*4096,n*4096))=1:=k2
 rw [e1,e2,e3,e4] at PM
 clear e1 e2 e3 e4 k1 k2 hp
 generalize M.mulS (some (n*4096,n*4096)) (some p)=r at *
 have PI:=Lib.hid fun W=>jD n W
 generalize M.in1 (some p)=i1 at *
 generalize M.in1 r=k1 at *
 generalize M.in2 (some p)=i2 at *
 generalize M.in2 r=k2 at *
 generalize M.in3 (some p)=i3 at *
 generalize M.in3 r=k3 at *
 generalize M.in4 (some p)=i4 at *
 generalize M.in4 r=k4 at *
 generalize r.isSome=fr at *
 replace PM:=Lib.hid PM
 obtain ⟨wc,hw3,Q,R,B⟩:=i9 w #[.int .i64 i1,.int .i64 i2,.int .i64 i3,.int .i64 i4] 38 #[.int .i64 0,.int .i64 0,.int .i64 0,.int .i64 0] 38
 have ⟨q0,q1,q2,q3,_,_,_,_,_⟩:=Q.boxQ
 go_enter Tryz.func35,Tryz.ntmps35
 go_wp2
 go_upto_region 1 with fail
 refine Rg.walkT 9 [.is (.int .i64 n),.is (.agg #[.int .i64 n,.int .i64 1]),.is (.int .i64 n),.is (.agg #[.int .i64 n,.int .i64 1]),.is (.agg #[.int .i64 n,.int .i64 1,.int .i64 n,.int .i64 1]),.is (.agg #[.int .i64 i1,.int .i64 i2,.int .i64 i3,.int .i64 i4]),.is (.tuple #[.agg #[.int .i64 k1,.int .i64 k2,.int .i64 k3,.int .i64 k4],.bool fr]),.is (.agg #[.int .i64 k1,.int .i64 k2,.int .i64 k3,.int .i64 k4]),.is (.bool fr)] (by kernel_rfl) (by kernel_rfl) (by kernel_rfl) ⟨?_,?_,?_,?_,?_,?_,?_,?_,?_,fun h_=>absurd h_ (by decide),fun h_=>absurd h_ (by decide),trivial⟩ ?_
 ·intro _ ac_ w_ hB hr
  have e1:ac_.tmps[1]?=some (.int .i64 n):=hr 1 (by decide)
  exact Rg.pure1 rfl (by go_simp)
 ·intro _ ac_ w_ hB hr
  have e6:=Rg.ev1 (hr 6 (by decide))
  have ef:=Rg.ef ac_
  exact Rg.callIs rfl (by go_simp) (PI.out _)
 ·intro _ ac_ w_ hB hr
  have e1:ac_.tmps[1]?=some (.int .i64 n):=hr 1 (by decide)
  exact Rg.pure1 rfl (by go_simp)
 ·intro _ ac_ w_ hB hr
  have e8:=Rg.ev1 (hr 8 (by decide))
  have ef:=Rg.ef ac_
  exact Rg.callIs rfl (by go_simp) (PI.out _)
 ·intro _ ac_ w_ hB hr
  have e7:=Rg.ev1 (hr 7 (by decide))
  have e9:=Rg.ev1 (hr 9 (by decide))
  exact Rg.pure1 rfl (by first | (go_simp;done) | (go_simp;rfl))
 ·intro _ ac_ w_ hB hr
  have e2:ac_.tmps[2]?=some (.pointer (some ⟨w.heap.size,0,none⟩)):=hr 2 (by decide)
  have k0:=aE hB q0
  have k1:=aE hB q1
  have k2:=aE hB q2
  have k3:=aE hB q3
  exact Rg.pure1 rfl (by go_simp)
 ·intro _ ac_ w_ hB hr
  have e10:=Rg.ev1 (hr 10 (by decide))
  have e11:=Rg.ev1 (hr 11 (by decide))
  have ef:=Rg.ef ac_
  exact Rg.callIs rfl (by go_simp) (PM.out _)
 ·intro _ ac_ w_ hB hr
  have e12:=Rg.ev1 (hr 12 (by decide))
  exact Rg.pure1 rfl (by go_simp)
 ·intro _ ac_ w_ hB hr
  have e12:=Rg.ev1 (hr 12 (by decide))
  exact Rg.pure1 rfl (by go_simp)
 ·intro vals wz hB hv hne
  have v_7:vals 7=.agg #[.int .i64 k1,.int .i64 k2,.int .i64 k3,.int .i64 k4]:=hv 7 (by decide)
  have v_8:vals 8=.bool fr:=hv 8 (by decide)
  simp only [List.take_succ_cons,List.take_zero,List.drop_succ_cons,List.drop_zero,Rg.fill,if_true,Act.put,List.setIfInBounds_toArray,List.set_cons_zero,List.set_cons_succ,Nat.zero_add,Nat.reduceAdd]
  clear hv
  simp only [v_7,v_8]
  clear v_7 v_8
  replace R:=R.keep hB
  replace B:=B.trans (hB.mono B.size)
  have ⟨r0,r1,r2,r3,z0,z1,z2,z3,rl⟩:=R.boxQ
  unfold Rg.tailWp Rg.tailWp Oper.wp
  go_simp
  first | unfold Rg.tailWp | skip
  go_wp2
  exact bodyPost_ret (v:=.tuple #[.agg #[.int .i64 k1,.int .i64 k2,.int .i64 k3,.int .i64 k4],.bool fr]) (by simp [results,Tryz.results35,go_sem, *]) rfl (⟨rfl,Below.setCell (Below.setCell (Below.setCell (Below.setCell B (by simp <;> omega) _) (by simp <;> omega) _) (by simp <;> omega) _) (by simp <;> omega) _⟩)
def dF (w:World) (base:Nat) (v:Value) (rows:M.Mat):Prop:=∃ vs,ai w base v vs rows
theorem dF.below {w w':World} {base:Nat} {v:Value} {rows:M.Mat} (h:dF w base v rows) (hb:Below w.heap.size w w'):dF w' base v rows:=h.elim fun vs k=>⟨vs,k.below hb⟩
theorem dF.base {w:World} {base base':Nat} {v:Value} {rows:M.Mat} (h:dF w base v rows) (hb:base'≤base):dF w base' v rows:=h.elim fun vs k=>⟨vs,k.base hb⟩
theorem dF.nil (w:World) (base:Nat):dF w base (.slice none 0 0) []:=⟨[],ai.nil w base⟩
theorem dF.at {w:World} {base:Nat} {v:Value} {rows:M.Mat} (h:dF w base v rows) {i j:Nat} {r:List (Int × Int)} {q:Int × Int} (hr:rows[i]?=some r) (hq:r[j]?=some q) :
  ∃ (g cap g2 cap2:Nat),v=.slice (some ⟨g,0,none⟩) rows.length cap∧w.cell? ⟨g,i,none⟩=some (.slice (some ⟨g2,0,none⟩) r.length cap2)∧w.cell? ⟨g2,j*2,none⟩=some (.int .i64 q.1)∧w.cell? ⟨g2,j*2+1,none⟩=some (.int .i64 q.2):=by
 obtain ⟨vs,h⟩:=h
 obtain ⟨a,cap,rfl,-,hv⟩:=h.view
 obtain ⟨g,u,r',rfl,-,h1,-,h2,h3⟩:=hv i (List.getElem?_eq_some_iff.1 hr).1
 have e:r'=r:=by
  have:=h1.out
  rw [hr] at this
  exact (Option.some.inj this).symm
 subst e
 rcases h3.forms with ⟨-,h4⟩ | ⟨g2,cap2,rfl,-,-,-,-⟩
 ·rw [h4] at hq;cases hq
 ·have hc:=fun t (ht:t<2)=>(h3.cellAt rfl (j*2+t) _ ((Rw.flat_get EP r' j t q hq ht).trans (List.getElem?_eq_getElem (by rw [EP.len];exact ht)))).1
  exact ⟨g,cap,g2,cap2,rfl,h2,hc 0 (by decide),hc 1 (by decide)⟩
def aY (xs:List (Int × Int)):Array Value:=(xs.flatMap EP.cells).toArray
def cL (W:World) (gm n:Nat) (rows:M.Mat):Prop:=
 rows.length=n∧aG W gm 73 ((List.range n).map fun i=>Value.slice (some ⟨gm+1+i,0,none⟩) n n).toArray∧∀ (i:Nat) (r:List (Int × Int)),rows[i]?=some r→r.length=n∧aG W (gm+1+i) 58 (aY r)
theorem cL.below {W W':World} {gm n:Nat} {rows:M.Mat} (h:cL W gm n rows) (hb:Below W.heap.size W W'):cL W' gm n rows:=
 ⟨h.1,h.2.1.keep hb,fun i r hr=>⟨(h.2.2 i r hr).1,(h.2.2 i r hr).2.keep hb⟩⟩
theorem cL.row {W:World} {gm n:Nat} {rows:M.Mat} (h:cL W gm n rows) {i:Nat} (hi:i<n):W.cell? ⟨gm,i,none⟩=some (.slice (some ⟨gm+1+i,0,none⟩) n n):=by
 refine (h.2.1.cell i).trans ?_
 rw [List.getElem?_toArray,List.getElem?_map,List.getElem?_range hi]
 rfl
theorem cL.mat {W:World} {gm n base:Nat} {rows:M.Mat} (h:cL W gm n rows) (hb:base≤gm) (hn:n≤1000000):dF W base (.slice (some ⟨gm,0,none⟩) n n) rows:=by
 obtain ⟨h1,h2,h3⟩:=h
 refine ⟨(List.range n).map fun i=>Value.slice (some ⟨gm+1+i,0,none⟩) n n,?_,?_,?_,?_⟩
 ·rw [h1]
  refine ⟨by simp,Or.inr ⟨gm,n,_,rfl,hb,h2,Nat.le_refl _,by unfold maxLen;omega,by simp,List.take_of_length_le (by simp)⟩⟩
 ·simp [h1]
 ·intro i u r hu hr
  have hi:i<n:=by rw [←h1];exact (List.getElem?_eq_some_iff.1 hr).1
  rw [List.getElem?_map,List.getElem?_range hi] at hu
  have hu:Value.slice (some ⟨gm+1+i,0,none⟩) n n=u:=Option.some.inj hu
  subst hu
  obtain ⟨k1,k2⟩:=h3 i r hr
  refine ⟨Rw.flat_len EP r,Or.inr ⟨gm+1+i,n,_,by rw [k1],by omega,k2,by omega,by unfold maxLen;omega,?_,?_⟩⟩
  ·unfold aY;rw [List.size_toArray,Rw.flat_len,k1]
  ·exact List.take_of_length_le (Nat.le_of_eq (Rw.flat_len EP r))
 ·rw [List.pairwise_map]
  refine List.Pairwise.imp ?_ (List.nodup_range (n:=n))
  intro a b hab g hg hg'
  simp only [Value.ownBlock,Option.some.injEq] at hg hg'
  exact hab (by omega)
theorem fw {r:List (Int × Int)} {j:Nat} (q:Int × Int) (hj:j<r.length):((aY r).setIfInBounds (j*2) (.int .i64 q.1)).setIfInBounds (j*2+1) (.int .i64 q.2)=aY (r.set j q):=by
 have hl:(r.flatMap EP.cells).length=r.length*2:=Rw.flat_len EP r
 have hz:(aY r).size=r.length*2:=hl
 apply Array.ext_getElem?
 intro t
 have hs:=Rw.flat_set EP r j q hj t
 have hk:EP.k=2:=rfl
 rw [hk] at hs
 show _=(aY (r.set j q))[t]?
 have e1:(aY (r.set j q))[t]?=((r.set j q).flatMap EP.cells)[t]?:=List.getElem?_toArray
 have e2:(aY r)[t]?=(r.flatMap EP.cells)[t]?:=List.getElem?_toArray
 rw [e1,hs,Array.getElem?_setIfInBounds,Array.getElem?_setIfInBounds,Array.size_setIfInBounds,hz,e2]
 by_cases h1:j*2+1=t
 ·subst h1
  rw [if_pos rfl,if_pos (by omega),if_pos (by omega)]
  have:j*2+1 - j*2=1:=by omega
  rw [this]
  rfl
 ·rw [if_neg h1]
  by_cases h2:j*2=t
  ·subst h2
   rw [if_pos rfl,if_pos (by omega),if_pos (by omega)]
   have:j*2 - j*2=0:=by omega
   rw [this]
   rfl
  ·rw [if_neg h2,if_neg (by omega)]
theorem cL.put {W:World} {gm n:Nat} {rows:M.Mat} (h:cL W gm n rows) {i j:Nat} {r:List (Int × Int)} (hr:rows[i]?=some r) (hj:j<n) (q:Int × Int):cL ((W.setCell ⟨gm+1+i,j*2,none⟩ (.int .i64 q.1)).setCell ⟨gm+1+i,j*2+1,none⟩ (.int .i64 q.2)) gm n (rows.set i (r.set j q)):=by
 obtain ⟨h1,h2,h3⟩:=h
 obtain ⟨k1,k2⟩:=h3 i r hr
 refine ⟨by rw [List.length_set];exact h1,(h2.other (by omega) _).other (by omega) _,fun i' r' hr'=>?_⟩
 by_cases hi:i=i'
 ·subst hi
  rw [List.getElem?_set_self (List.getElem?_eq_some_iff.1 hr).1] at hr'
  have e:=Option.some.inj hr'
  subst e
  refine ⟨by rw [List.length_set];exact k1,?_⟩
  rw [←fw q (by omega)]
  exact (k2.set _ _).set _ _
 ·rw [List.getElem?_set_ne hi] at hr'
  obtain ⟨m1,m2⟩:=h3 i' r' hr'
  exact ⟨m1,(m2.other (by omega) _).other (by omega) _⟩
theorem cL.cells {W:World} {gm n:Nat} {rows:M.Mat} (h:cL W gm n rows) {i j:Nat} {r:List (Int × Int)} {q:Int × Int} (hr:rows[i]?=some r) (hq:r[j]?=some q):W.cell? ⟨gm+1+i,j*2,none⟩=some (.int .i64 q.1)∧W.cell? ⟨gm+1+i,j*2+1,none⟩=some (.int .i64 q.2)∧W.frozen? ⟨gm+1+i,j*2,none⟩=false∧W.frozen? ⟨gm+1+i,j*2+1,none⟩=false∧gm+1+i<W.heap.size:=by
 obtain ⟨k1,k2⟩:=h.2.2 i r hr
 have hc:=fun t (ht:t<2)=>(k2.cell (j*2+t)).trans ((List.getElem?_toArray (xs:=r.flatMap EP.cells) (i:=j*2+t)).trans ((Rw.flat_get EP r j t q hq ht).trans (List.getElem?_eq_getElem (by rw [EP.len];exact ht))))
 exact ⟨hc 0 (by decide),hc 1 (by decide),k2.frz _,k2.frz _,k2.lt⟩
theorem kq (n:Nat) (hn:n≤4):madeCells (Value.agg #[.int .i64 0,.int .i64 0]).cells (n*2)=aY (List.replicate n (0,0)):=by
 have hc:n=0∨n=1∨n=2∨n=3∨n=4:=by omega
 rcases hc with rfl | rfl | rfl | rfl | rfl <;> (simp [madeCells,aY,EP,Value.cells,Array.range_succ,(show Array.range 0=#[] from rfl),List.replicate])
theorem jL (n:Nat) (hn:n≤4):madeCells (Value.slice none 0 0).cells (n*1)=(List.replicate n (Value.slice none 0 0)).toArray:=by
 have hc:n=0∨n=1∨n=2∨n=3∨n=4:=by omega
 rcases hc with rfl | rfl | rfl | rfl | rfl <;> (simp [madeCells,aY,EP,Value.cells,Array.range_succ,(show Array.range 0=#[] from rfl),List.replicate])
theorem lP (w:World) (n:Nat) (hn:n≤4):(Instr.makeSlice 73 (.int .i64 (n:Int)) (.int .i64 (n:Int))).run Tryz.prog w=.ok (.slice (some ⟨w.heap.size,0,none⟩) n n) (w.alloc (.cells (aY (List.replicate n (0,0))) 58)):=by
 obtain ⟨i0,hi,hz0,hz1,hz2⟩:=info_parts nL
 have hr:=run_make (P:=Tryz.prog) w 73 58 i0 _ Tryz.underlying73 hi hz0 .i64 .i64 n n (by omega) (Int.le_refl _) (by rw [hz2];omega) (by omega)
 rw [hz1] at hr
 rw [Int.toNat_natCast,kq n hn] at hr
 exact hr
theorem kQ (w:World) (n:Nat) (hn:n≤4):(Instr.makeSlice 67 (.int .i64 (n:Int)) (.int .i64 (n:Int))).run Tryz.prog w=.ok (.slice (some ⟨w.heap.size,0,none⟩) n n) (w.alloc (.cells (List.replicate n (Value.slice none 0 0)).toArray 73)):=by
 obtain ⟨i0,hi,hz0,hz1,hz2⟩:=info_parts mL
 have hr:=run_make (P:=Tryz.prog) w 67 73 i0 _ Tryz.underlying67 hi hz0 .i64 .i64 n n (by omega) (Int.le_refl _) (by rw [hz2];omega) (by omega)
 rw [hz1] at hr
 rw [Int.toNat_natCast,jL n hn] at hr
 exact hr
namespace M
noncomputable def spc (s:Sp):Int × Int:=(slo s,shi s)
noncomputable def pRows (a b:Int) (l:List Pt):Mat:=if mOk a b l=true then (List.range l.length).map (fun i=>(List.range l.length).map fun j=>spc (ent a b l i j)) else []
end M
def cP (gm n k:Nat):Array Value:=((List.range n).map fun i=>if i<k then Value.slice (some ⟨gm+1+i,0,none⟩) n n else Value.slice none 0 0).toArray
theorem gU (gm n:Nat):cP gm n 0=(List.replicate n (Value.slice none 0 0)).toArray:=by
 unfold cP
 congr 1
 simp [List.map_const']
theorem iD {gm n k:Nat} (hk:k<n):(cP gm n k).setIfInBounds k (.slice (some ⟨gm+1+k,0,none⟩) n n)=cP gm n (k+1):=by
 unfold cP
 apply Array.ext_getElem?
 intro t
 rw [Array.getElem?_setIfInBounds]
 simp only [List.size_toArray,List.length_map,List.length_range,List.getElem?_toArray,List.getElem?_map]
 by_cases h:k=t
 ·subst h
  rw [if_pos rfl,if_pos hk,List.getElem?_range hk]
  simp
 ·rw [if_neg h]
  rcases Nat.lt_or_ge t n with q | q
  ·rw [List.getElem?_range q]
   simp only [Option.map_some]
   congr 1
   by_cases h2:t<k
   ·rw [if_pos h2,if_pos (by omega)]
   ·rw [if_neg h2,if_neg (by omega)]
  ·rw [List.getElem?_eq_none (by simp;omega)]
   rfl
theorem jo {gm n k:Nat} (hk:k<n):(cP gm n k)[k]?=some (.slice none 0 0):=by
 unfold cP
 rw [List.getElem?_toArray,List.getElem?_map,List.getElem?_range hk]
 simp
end
section
open Go Go.RowKit
namespace Rg
variable {P:Program} {Q:Exit→Act→World→Prop}
section
variable (P) (Q) (ops:Array Oper) (a0:Act) (T:List Value) (J:Nat→World→Prop) (C:List Nat)
def jE (o:Oper) (a:Act) (t:Nat):Prop:=
 match o.after.toList.find? (fun e=>Region.binds .any e && ((ops[e.on]?).bind (·.dst)) == some t) with
 | some e=>if e.on ∈ C then True else a.tmps[t]?=some (T.getD e.on undef)
 | none=>a.tmps[t]?=a0.tmps[t]?
def OwedS1 (k:Nat) (o:Oper):Prop:=
 if k ∈ C then ∀ (a:Act) (w:World),J (C.idxOf k) w→(∀ t ∈ o.looksAt ops,jE ops a0 T C o a t)→Region.wanted o (yielded ops a.tmps)=true∧o.wp P a w (fun a' w'=>(∃ v,a'=a.put o.dst v)∧J (C.idxOf k+1) w') Q
 else ∀ (a:Act) (w:World) (n:Nat),n≤C.length→J n w→(∀ t ∈ o.looksAt ops,jE ops a0 T C o a t)→Region.wanted o (yielded ops a.tmps)=true∧(execOp a.eval o).run P w=.ok (.value (T.getD k undef)) w
def jy:List Oper→Nat→Prop
 | [],_=>True
 | o :: os,k=>OwedS1 P Q ops a0 T J C k o∧jy os (k+1)
def nH (l:Nat→Bool) (vals:Nat→Value) (w:World):Prop:=
 J (cnt l C) w∧∀ i,i ∉ C→l i=true→vals i=T.getD i undef
end
theorem iK {l:Nat→Bool}:∀ C:List Nat,cnt l C≤C.length
 | []=>Nat.le_refl _
 | c :: cs=>by
  unfold cnt
  have:=iK (l:=l) cs
  split
  ·simp only [List.length_cons];omega
  ·omega
theorem km {ops:Array Oper} {a0:Act} {T:List Value} {J:Nat→World→Prop} {C:List Nat} (hC:bX ops C=true) :
  ∀ (os:List Oper) (k:Nat),(∀ i,os[i]?=ops[k+i]?)→jy P Q ops a0 T J C os k→dT P Q .any ops (nH T J C) a0 os k
 | [],_,_,_=>trivial
 | o :: os,k,hos,h=>by
  refine ⟨fun a w l vals hI hl hc hdep hr=>?_,km hC os (k+1) (fun i=>by rw [show k+1+i=k+(i+1) by omega,←hos (i+1)];rfl) h.2⟩
  obtain ⟨hB,hv⟩:=hI
  have ho:ops[k]?=some o:=(hos 0).symm
  have hQ:∀ t ∈ o.looksAt ops,jE ops a0 T C o a t:=fun t ht=>by
   have:=hr t ht
   unfold rd at this
   unfold jE
   split
   ·rename_i e he
    rw [he] at this
    have h2:=List.find?_some he
    rw [Bool.and_eq_true] at h2
    split
    ·trivial
    ·rename_i n1
     replace this:a.tmps[t]?=some (vals e.on):=this
     rw [this,hv _ n1 (hdep e (Array.mem_toList_iff.1 (List.mem_of_find?_eq_some he)) h2.1)]
   ·rename_i he
    rw [he] at this
    exact this
  have hko:∀ j,j≠k→upd l k j=l j:=fun j hj=>if_neg hj
  have h1:=h.1
  unfold OwedS1 at h1
  unfold fb
  have rest:∀ v,(k ∉ C→v=T.getD k undef)→∀ i,i ∉ C→upd l k i=true→bw vals k v i=T.getD i undef:=fun v hvk i n1 hi=>by
   by_cases hik:i=k
   ·subst hik
    have:bw vals i v i=v:=if_pos rfl
    rw [this];exact hvk n1
   ·rw [hko i hik] at hi
    have:bw vals k v i=vals i:=if_neg hik
    rw [this]
    exact hv i n1 hi
  by_cases e3:k ∈ C
  ·rw [if_pos e3] at h1
   obtain ⟨q1,q2⟩:=dl hc hl (fun c hcd=>cX ho hdep hcd) C hC e3
   rw [q1] at hB
   obtain ⟨hw,hwp⟩:=h1 a w hB hQ
   rw [if_pos hw]
   refine Oper.wp_mono ?_ hwp
   rintro a' w' ⟨⟨v,e⟩,h2⟩
   exact ⟨v,e,by rw [q2];exact h2,rest v (fun h=>absurd e3 h)⟩
  ·rw [if_neg e3] at h1
   obtain ⟨hw,hwp⟩:=h1 a w _ (iK C) hB hQ
   rw [if_pos hw]
   unfold Oper.wp
   rw [hwp]
   exact ⟨_,rfl,by rw [cn C e3];exact hB,rest _ (fun _=>rfl)⟩
theorem walkS {id:Nat} {ops:Array Oper} {a0:Act} {w:World} (J:Nat→World→Prop) (C:List Nat) (T:List Value)
  (hm:P.follows .mixedOrders=true) (hok:cM .any ops a0.tmps.size=true) (hC:bX ops C=true) (hcl:∀ c ∈ C,c<ops.size) (h0:J 0 { w with drawn:=w.drawn+1 })
  (hR:jy P Q ops a0 T J C ops.toList 0)
  (hF:∀ (vals:Nat→Value) (w':World),J C.length w'→(∀ i,i<ops.size→i ∉ C→vals i=T.getD i undef)→Q .normal (fill (fun _=>true) vals ops.toList 0 a0) w'):(Code.region id ops true).wp P Q a0 w:=by
 have c0:∀ C:List Nat,cnt (fun _=>false) C=0:=fun C=>by cases C <;> rfl
 have cl:∀ (l:Nat→Bool) (C:List Nat),(∀ c ∈ C,l c=true)→cnt l C=C.length:=fun l C=>by
  induction C with
  | nil=>intro _;rfl
  | cons c cs ih=>
   intro h
   unfold cnt
   rw [if_pos (h c (List.mem_cons_self ..)),ih (fun x hx=>h x (List.mem_cons_of_mem _ hx))]
   rfl
 refine eP (nH T J C) hm hok (fun vals=>⟨?_,(fun _ _ h=>absurd h (by simp))⟩) (km hC ops.toList 0 (fun i=>by rw [Nat.zero_add];exact Array.getElem?_toList) hR) ?_
 ·rw [c0]
  exact h0
 ·intro l vals w' hl hI
  obtain ⟨h1,h2⟩:=hI
  rw [cl l C (fun c hc=>hl c (hcl c hc))] at h1
  exact hF vals w' h1 (fun i hi n1=>h2 i n1 (hl i hi))
end Rg
namespace Rg
variable {P:Program} {Q:Exit→Act→World→Prop}
section
variable (P) (Q) (ops:Array Oper) (a0:Act) (T:List Val) (w1:World) (ka ks:Nat) (Tn:TypeId) (xs ys:Array Value)
def OwedN1 (k:Nat) (o:Oper):Prop:=
 if k=ka then ∀ (a:Act) (w:World),Region.wanted o (yielded ops a.tmps)=true∧o.wp P a w (fun a' w'=>a'=a.put o.dst (.pointer (some ⟨w.heap.size,0,none⟩))∧w'=w.alloc (.cells xs Tn)) Q
 else if k=ks then ∀ (a:Act) (w:World) (h:Nat),w1.heap.size≤h→aG w h Tn xs→(∀ t ∈ o.looksAt ops,jH ops a0 T ka ks h o a w t)→Region.wanted o (yielded ops a.tmps)=true∧o.wp P a w (fun a' w'=>(∃ v,a'=a.put o.dst v)∧aG w' h Tn ys∧Below w1.heap.size w w') Q
 else ∀ (a:Act) (w:World),Below w1.heap.size w1 w→(∀ t ∈ o.looksAt ops,eu ops a0 T ka ks o a w t)→Does P ops Q (tbl T k) o a w
def lJ:List Oper→Nat→Prop
 | [],_=>True
 | o :: os,k=>OwedN1 P Q ops a0 T w1 ka ks Tn xs ys k o∧lJ os (k+1)
def me (l:Nat→Bool) (vals:Nat→Value) (w:World):Prop:=
 Below w1.heap.size w1 w∧(∀ i,i≠ka→i≠ks→l i=true→(tbl T i).ok (vals i) w)∧(l ka=true→∃ h,w1.heap.size≤h∧vals ka=.pointer (some ⟨h,0,none⟩)∧aG w h Tn (if l ks=true then ys else xs))
end
theorem kr {ops:Array Oper} {a0:Act} {T:List Val} {w1:World} {ka ks:Nat} {Tn:TypeId} {xs ys:Array Value}
  (hp:∀ j,j≠ka→j≠ks→(tbl T j).pure=true) (hne:ka≠ks) (hE:d6 ops ka ks=true) :
  ∀ (os:List Oper) (k:Nat),(∀ i,os[i]?=ops[k+i]?)→lJ P Q ops a0 T w1 ka ks Tn xs ys os k→dT P Q .any ops (me T w1 ka ks Tn xs ys) a0 os k
 | [],_,_,_=>trivial
 | o :: os,k,hos,h=>by
  refine ⟨fun a w l vals hI hl hc hdep hr=>?_,kr hp hne hE os (k+1) (fun i=>by rw [show k+1+i=k+(i+1) by omega,←hos (i+1)];rfl) h.2⟩
  obtain ⟨hB,hv,hn⟩:=hI
  have ho:ops[k]?=some o:=(hos 0).symm
  have hsz:w1.heap.size≤w.heap.size:=hB.size
  have hQ:∀ t ∈ o.looksAt ops,eu ops a0 T ka ks o a w t:=fun t ht=>by
   have:=hr t ht
   unfold rd at this
   unfold eu
   split
   ·rename_i e he
    rw [he] at this
    have h2:=List.find?_some he
    rw [Bool.and_eq_true] at h2
    split
    ·trivial
    ·split
     ·trivial
     ·rename_i n1 n2
      exact ⟨_,this,hv _ n1 n2 (hdep e (Array.mem_toList_iff.1 (List.mem_of_find?_eq_some he)) h2.1)⟩
   ·rename_i he
    rw [he] at this
    exact this
  have hko:∀ j,j≠k→upd l k j=l j:=fun j hj=>if_neg hj
  have hkk:upd l k k=true:=if_pos rfl
  have h1:=h.1
  unfold OwedN1 at h1
  unfold fb
  by_cases e1:k=ka
  ·rw [if_pos e1] at h1
   obtain ⟨hw,hwp⟩:=h1 a w
   rw [if_pos hw]
   refine Oper.wp_mono ?_ hwp
   rintro a' w' ⟨rfl,rfl⟩
   subst e1
   have hls:l ks=false:=by
    cases q:l ks
    ·rfl
    ·rw [bR hc hE q] at hl;cases hl
   refine ⟨_,rfl,?_,?_,fun _=>⟨w.heap.size,hsz,if_pos rfl,?_⟩⟩
   ·exact hB.alloc hsz _
   ·intro i n1 n2 hi
    rw [hko i n1] at hi
    have:bw vals k (.pointer (some ⟨w.heap.size,0,none⟩)) i=vals i:=if_neg n1
    rw [this]
    exact Val.pure_keep (hp i n1 n2) (hv i n1 n2 hi)
   ·rw [hko ks (fun e=>hne e.symm),hls]
    exact aG.new w xs Tn
  ·rw [if_neg e1] at h1
   by_cases e2:k=ks
   ·rw [if_pos e2] at h1
    subst e2
    obtain ⟨hh,hh1,hh2,hh3⟩:=hn (cX ho hdep hE)
    rw [hl] at hh3
    obtain ⟨hw,hwp⟩:=h1 a w hh hh1 hh3 (fun t ht=>by
     have:=hr t ht
     unfold rd at this
     unfold jH
     split
     ·rename_i e he
      rw [he] at this
      have h2:=List.find?_some he
      rw [Bool.and_eq_true] at h2
      split
      ·rename_i q
       replace this:a.tmps[t]?=some (vals e.on):=this
       rw [q,hh2] at this
       exact this
      ·split
       ·trivial
       ·rename_i n1 n2
        exact ⟨_,this,hv _ n1 n2 (hdep e (Array.mem_toList_iff.1 (List.mem_of_find?_eq_some he)) h2.1)⟩
     ·rename_i he
      rw [he] at this
      exact this)
    rw [if_pos hw]
    refine Oper.wp_mono ?_ hwp
    rintro a' w' ⟨⟨v,e⟩,h2,h3⟩
    refine ⟨v,e,?_,?_,fun _=>⟨hh,hh1,?_,?_⟩⟩
    ·exact hB.trans h3
    ·intro i n1 n2 hi
     rw [hko i n2] at hi
     have:bw vals k v i=vals i:=if_neg n2
     rw [this]
     exact Val.pure_keep (hp i n1 n2) (hv i n1 n2 hi)
    ·have:bw vals k v ka=vals ka:=if_neg hne
     rw [this];exact hh2
    ·rw [hkk];exact h2
   ·rw [if_neg e2] at h1
    have rest:∀ (v:Value) (w':World),(tbl T k).ok v w'→Below w.heap.size w w'→me T w1 ka ks Tn xs ys (upd l k) (bw vals k v) w':=by
     intro v w' h2 h3
     refine ⟨hB.trans (h3.mono hsz),?_,?_⟩
     ·intro i n1 n2 hi
      by_cases hik:i=k
      ·subst hik
       have:bw vals i v i=v:=if_pos rfl
       rw [this];exact h2
      ·rw [hko i hik] at hi
       have:bw vals k v i=vals i:=if_neg hik
       rw [this]
       exact Val.pure_keep (hp i n1 n2) (hv i n1 n2 hi)
     ·intro hi
      rw [hko ka (fun e=>e1 e.symm)] at hi
      obtain ⟨hh,hh1,hh2,hh3⟩:=hn hi
      refine ⟨hh,hh1,?_,?_⟩
      ·have:bw vals k v ka=vals ka:=if_neg (fun e=>e1 e.symm)
       rw [this];exact hh2
      ·rw [hko ks (fun e=>e2 e.symm)]
       exact hh3.keep h3
    have hd:=h1 a w hB hQ
    unfold Does at hd
    split
    ·rename_i hw
     rw [if_pos hw] at hd
     refine Oper.wp_mono ?_ hd
     rintro a' w' ⟨v,e,h2,h3⟩
     exact ⟨v,e,rest v w' h2 h3⟩
    ·rename_i hw
     rw [if_neg hw] at hd
     exact rest undef w hd (Below.refl _ _)
theorem walkN {id:Nat} {ops:Array Oper} {a0:Act} {w:World} (ka ks:Nat) (Tn:TypeId) (xs ys:Array Value) (T:List Val)
  (hm:P.follows .mixedOrders=true) (hok:cM .any ops a0.tmps.size=true) (hC:(d6 ops ka ks && decide (ka<ops.size) && decide (ks<ops.size))=true)
  (hp:∀ j,j≠ka→j≠ks→(tbl T j).pure=true) (hne:ka≠ks)
  (hR:lJ P Q ops a0 T w ka ks Tn xs ys ops.toList 0)
  (hF:∀ (vals:Nat→Value) (w':World) (h:Nat),w.heap.size≤h→aG w' h Tn ys→vals ka=.pointer (some ⟨h,0,none⟩)→Below w.heap.size w w'→(∀ i,i<ops.size→i≠ka→i≠ks→(tbl T i).ok (vals i) w')→Q .normal (fill (fun _=>true) vals ops.toList 0 a0) w'):(Code.region id ops true).wp P Q a0 w:=by
 rw [Bool.and_eq_true,Bool.and_eq_true,decide_eq_true_eq,decide_eq_true_eq] at hC
 obtain ⟨⟨hE,ha⟩,hs⟩:=hC
 refine eP (me T w ka ks Tn xs ys) hm hok (fun vals=>⟨?_,(fun _ _ _ h=>absurd h (by simp)),(fun h=>absurd h (by simp))⟩) (kr hp hne hE ops.toList 0 (fun i=>by rw [Nat.zero_add];exact Array.getElem?_toList) hR) ?_
 ·exact (Below.refl _ w).drew
 ·intro l vals w' hl hI
  obtain ⟨h1,h2,h3⟩:=hI
  obtain ⟨h,q1,q2,q3⟩:=h3 (hl ka ha)
  rw [hl ks hs,if_pos rfl] at q3
  exact hF vals w' h q1 q3 q2 h1 (fun i hi n1 n2=>h2 i n1 n2 (hl i hi))
end Rg
end
section
open Go.RowKit
namespace M
def done (i k:Nat) (x y:Nat):Bool:=decide (min x y<i) || (decide (min x y=i) && decide (max x y<k))
def bK (n:Nat) (p:Nat→Bool) (f:Nat→Int × Int):List (Int × Int):=(List.range n).map fun j=>if p j then f j else (0,0)
def tabM (n:Nat) (P:Nat→Nat→Bool) (f:Nat→Nat→Int × Int):Mat:=(List.range n).map fun i=>bK n (P i) (f i)
noncomputable def fe (a b:Int) (l:List Pt) (i j:Nat):Int × Int:=spc (ent a b l i j)
theorem cY (n:Nat) (p:Nat→Bool) (f:Nat→Int × Int):(bK n p f).length=n:=by unfold bK;rw [List.length_map,List.length_range]
theorem dc (n:Nat) (P:Nat→Nat→Bool) (f:Nat→Nat→Int × Int):(tabM n P f).length=n:=by unfold tabM;rw [List.length_map,List.length_range]
theorem tabM_row {n i:Nat} (P:Nat→Nat→Bool) (f:Nat→Nat→Int × Int) (h:i<n):(tabM n P f)[i]?=some (bK n (P i) (f i)):=by
 unfold tabM
 rw [List.getElem?_map,List.getElem?_range h]
 rfl
theorem tabRow_at {n j:Nat} (p:Nat→Bool) (f:Nat→Int × Int) (h:j<n):(bK n p f)[j]?=some (if p j then f j else (0,0)):=by
 unfold bK
 rw [List.getElem?_map,List.getElem?_range h]
 rfl
theorem eU {n:Nat} {p q:Nat→Bool} {f:Nat→Int × Int} (h:∀ j,j<n→p j=q j):bK n p f=bK n q f:=by
 unfold bK
 refine List.map_congr_left fun j hj=>?_
 rw [h j (List.mem_range.1 hj)]
theorem lG {n:Nat} {P Q:Nat→Nat→Bool} {f:Nat→Nat→Int × Int} (h:∀ i,i<n→∀ j,j<n→P i j=Q i j):tabM n P f=tabM n Q f:=by
 unfold tabM
 refine List.map_congr_left fun i hi=>?_
 exact eU (h i (List.mem_range.1 hi))
theorem ia {n j:Nat} {p q:Nat→Bool} {f:Nat→Int × Int} (hj:j<n) (h1:q j=true) (h2:∀ t,t≠j→t<n→q t=p t):(bK n p f).set j (f j)=bK n q f:=by
 apply List.ext_getElem?
 intro t
 rcases Nat.lt_or_ge t n with q1 | q1
 ·rw [tabRow_at q f q1]
  by_cases e:j=t
  ·subst e
   rw [List.getElem?_set_self (by rw [cY];exact q1),if_pos h1]
  ·rw [List.getElem?_set_ne e,tabRow_at p f q1,h2 t (fun h=>e h.symm) q1]
 ·rw [List.getElem?_eq_none (by rw [List.length_set,cY];exact q1),List.getElem?_eq_none (by rw [cY];exact q1)]
theorem fE {n i j:Nat} {P Q:Nat→Nat→Bool} {f:Nat→Nat→Int × Int} (hi:i<n) (hj:j<n) (h1:Q i j=true) (h2:∀ x y,¬ (x=i∧y=j)→x<n→y<n→Q x y=P x y):(tabM n P f).set i ((bK n (P i) (f i)).set j (f i j))=tabM n Q f:=by
 rw [ia (p:=P i) (q:=Q i) (f:=f i) hj h1 (fun t ht htn=>h2 i t (fun h=>ht h.2) hi htn)]
 apply List.ext_getElem?
 intro t
 rcases Nat.lt_or_ge t n with q1 | q1
 ·rw [tabM_row Q f q1]
  by_cases e:i=t
  ·subst e
   rw [List.getElem?_set_self (by rw [dc];exact q1)]
  ·rw [List.getElem?_set_ne e,tabM_row P f q1,eU (p:=P t) (q:=Q t) (fun y hy=>(h2 t y (fun h=>e h.1.symm) q1 hy).symm)]
 ·rw [List.getElem?_eq_none (by rw [List.length_set,dc];exact q1),List.getElem?_eq_none (by rw [dc];exact q1)]
theorem tabM_zero (n:Nat) (f:Nat→Nat→Int × Int):List.replicate n (List.replicate n ((0:Int),(0:Int)))=tabM n (done 0 0) f:=by
 apply List.ext_getElem?
 intro t
 rcases Nat.lt_or_ge t n with q1 | q1
 ·rw [tabM_row _ f q1,List.getElem?_replicate,if_pos q1]
  congr 1
  apply List.ext_getElem?
  intro y
  rcases Nat.lt_or_ge y n with q2 | q2
  ·rw [tabRow_at _ _ q2,List.getElem?_replicate,if_pos q2]
   simp [done]
  ·rw [List.getElem?_eq_none (by rw [List.length_replicate];exact q2),List.getElem?_eq_none (by rw [cY];exact q2)]
 ·rw [List.getElem?_eq_none (by rw [List.length_replicate];exact q1),List.getElem?_eq_none (by rw [dc];exact q1)]
def half (i k:Nat) (x y:Nat):Bool:=done i k x y || (decide (x=i) && decide (y=k))
def stepP (i k:Nat):Nat→Nat→Nat→Bool
 | 0=>done i k
 | 1=>half i k
 | _=>done i (k+1)
theorem put_self {n i:Nat} (f:Nat→Nat→Int × Int) (hi:i<n):(tabM n (done i i) f).set i ((bK n (done i i i) (f i)).set i (f i i))=tabM n (done i (i+1)) f:=by
 refine fE hi hi (by simp [done]) fun x y h _ _=>?_
 unfold done
 by_cases h1:min x y<i
 ·simp [h1]
 ·have h3:¬ (min x y=i∧max x y<i+1):=fun ⟨a1,a2⟩=>h ⟨by omega,by omega⟩
  have h4:¬ (min x y=i∧max x y<i):=fun ⟨a1,a2⟩=>by omega
  simp only [h1,decide_false,Bool.false_or,←Bool.decide_and,h3,h4]
theorem put_one {n i k:Nat} (f:Nat→Nat→Int × Int) (hi:i<k) (hk:k<n):(tabM n (done i k) f).set i ((bK n (done i k i) (f i)).set k (f i k))=tabM n (half i k) f:=
 fE (by omega) hk (by simp [half]) fun x y h _ _=>by
  unfold half
  have:(decide (x=i) && decide (y=k))=false:=by rw [←Bool.decide_and,decide_eq_false_iff_not];exact h
  rw [this,Bool.or_false]
theorem put_two {n i k:Nat} (f:Nat→Nat→Int × Int) (hs:f k i=f i k) (hi:i<k) (hk:k<n):(tabM n (half i k) f).set k ((bK n (half i k k) (f k)).set i (f i k))=tabM n (done i (k+1)) f:=by
 rw [←hs]
 refine fE hk (by omega) (by simp [done];omega) fun x y h _ _=>?_
 unfold half done
 by_cases h1:min x y<i
 ·simp [h1]
 ·by_cases h2:x=i∧y=k
  ·obtain ⟨rfl,rfl⟩:=h2
   have e1:min x y=x:=by omega
   have e2:max x y<y+1:=by omega
   simp [e1,e2]
  ·have h3:(min x y=i∧max x y<k+1) ↔ (min x y=i∧max x y<k):=⟨fun ⟨a1,a2⟩=>⟨a1,by omega⟩,fun ⟨a1,a2⟩=>⟨a1,by omega⟩⟩
   simp only [h1,decide_false,Bool.false_or,←Bool.decide_and,h2,Bool.or_false,h3]
theorem done_next {n i:Nat} (f:Nat→Nat→Int × Int):tabM n (done i n) f=tabM n (done (i+1) (i+1)) f:=by
 refine lG fun x hx y hy=>?_
 unfold done
 have h2:¬ (min x y=i+1∧max x y<i+1):=by omega
 have h1:(min x y<i∨(min x y=i∧max x y<n)) ↔ min x y<i+1:=by omega
 simp only [←Bool.decide_and,←Bool.decide_or,h2,decide_false,Bool.or_false,h1]
theorem kK {n:Nat} (f:Nat→Nat→Int × Int):tabM n (done n n) f=(List.range n).map fun i=>(List.range n).map fun j=>f i j:=by
 unfold tabM bK
 refine List.map_congr_left fun i hi=>List.map_congr_left fun j hj=>?_
 have:=List.mem_range.1 hi
 have:=List.mem_range.1 hj
 rw [if_pos]
 unfold done
 rw [decide_eq_true (by omega:min i j<n)]
 rfl
theorem fe_sym (a b:Int) (l:List Pt) (i j:Nat):fe a b l i j=fe a b l j i:=by unfold fe;rw [ent_sym]
theorem pRows_no {a b:Int} {l:List Pt} (h:mOk a b l=false):pRows a b l=[]:=by unfold pRows;rw [h];rfl
theorem pRows_yes {a b:Int} {l:List Pt} (h:mOk a b l=true):pRows a b l=tabM l.length (done l.length l.length) (fe a b l):=by rw [kK];unfold pRows;rw [h];rfl
end M
theorem cL.size {W:World} {gm n:Nat} {rows:M.Mat} (h:cL W gm n rows) (hn:0<n):gm+1+n≤W.heap.size:=by
 obtain ⟨h1,h2,h3⟩:=h
 have hl:n - 1<rows.length:=by omega
 have:=(h3 (n - 1) _ (List.getElem?_eq_getElem hl)).2.lt
 omega
def be (w:World) (N:Nat) (a b x1 x2 x3:Int) (pb:Nat) (rows:M.Mat) (W:World):Prop:=
 cL W (w.heap.size+1) N rows∧aG W w.heap.size 28 #[.int .i64 a,.int .i64 b]∧(w.heap.size+1+1+N≤pb∧aG W pb 54 #[.int .i64 x1,.int .i64 x2,.int .i64 x3])∧Below w.heap.size w W
def cU (w:World) (N sb:Nat) (q:Int × Int) (W:World):Prop:=w.heap.size+1+1+N≤sb∧aG W sb 58 #[.int .i64 q.1,.int .i64 q.2]
theorem be.below {w W W':World} {N:Nat} {a b x1 x2 x3:Int} {pb:Nat} {rows:M.Mat} (h:be w N a b x1 x2 x3 pb rows W) (hb:Below W.heap.size W W'):be w N a b x1 x2 x3 pb rows W':=
 ⟨h.1.below hb,h.2.1.keep hb,⟨h.2.2.1.1,h.2.2.1.2.keep hb⟩,h.2.2.2.trans (hb.mono h.2.2.2.size)⟩
theorem cU.below {w W W':World} {N sb:Nat} {q:Int × Int} (h:cU w N sb q W) (hb:Below W.heap.size W W'):cU w N sb q W':=⟨h.1,h.2.keep hb⟩
theorem be.put {w W:World} {N:Nat} {a b x1 x2 x3:Int} {pb:Nat} {rows rows':M.Mat} {i j:Nat} {r:List (Int × Int)} {q:Int × Int} (h:be w N a b x1 x2 x3 pb rows W) (hr:rows[i]?=some r) (hj:j<N) (he:rows.set i (r.set j q)=rows'):be w N a b x1 x2 x3 pb rows' ((W.setCell ⟨w.heap.size+1+1+i,j*2,none⟩ (.int .i64 q.1)).setCell ⟨w.heap.size+1+1+i,j*2+1,none⟩ (.int .i64 q.2)):=by
 subst he
 have hi:i<N:=by rw [←h.1.1];exact (List.getElem?_eq_some_iff.1 hr).1
 have hp:=h.2.2.1.1
 exact ⟨h.1.put hr hj q,(h.2.1.other (by omega) _).other (by omega) _,⟨hp,(h.2.2.1.2.other (by omega) _).other (by omega) _⟩,Below.setCell (Below.setCell h.2.2.2 (by show w.heap.size≤w.heap.size+1+1+i;omega) _) (by show w.heap.size≤w.heap.size+1+1+i;omega) _⟩
theorem cU.put {w W:World} {N sb i j1 j2:Nat} {q:Int × Int} {u v:Value} (h:cU w N sb q W) (hi:i<N):cU w N sb q ((W.setCell ⟨w.heap.size+1+1+i,j1,none⟩ u).setCell ⟨w.heap.size+1+1+i,j2,none⟩ v):=by
 have hp:=h.1
 exact ⟨hp,(h.2.other (by omega) _).other (by omega) _⟩
end
end Go.Proofs.YthfjndmdalfloaaGreat
