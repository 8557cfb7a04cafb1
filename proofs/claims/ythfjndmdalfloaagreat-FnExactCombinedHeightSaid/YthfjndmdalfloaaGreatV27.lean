/-
  Joined texts: contracts and plain lemmas.
-/
import Derived.Test.YthfjndmdalfloaaGreatV26
import Derived.Test.YthfjndmdalfloaaGreatV1
import Derived.Laws.IdiomCopy
import Derived.Shelf.Abstract
import Derived.Test.YthfjndmdalfloaaGreatRows
import Derived.WalkKit
import Derived.ProofKit
import Derived.OpenShut
import Derived.Lib.SmallJoins
import Derived.Below
import Derived.Carry
import Derived.Deep.Slices
set_option linter.unusedSimpArgs false
set_option linter.unusedVariables false
set_option maxRecDepth 100000
set_option maxHeartbeats 8000000
namespace Go.Proofs.YthfjndmdalfloaaGreat
section
open Go.RowKit Go.Shelf
def EPt:Rw.Enc (Int × Int × Int) where
 t:=54
 k:=3
 cells:=fun q=>[.int .i64 q.1,.int .i64 q.2.1,.int .i64 q.2.2]
 len:=fun _=>rfl
 one:=fun x u hu=>by simp only [List.mem_cons,List.not_mem_nil,or_false] at hu;rcases hu with rfl | rfl | rfl <;> rfl
 pos:=by decide
theorem mV:(Tryz.prog.info? 54).map (fun i=>(i.zero,i.size,i.bytes))=some (some (.agg #[.int .i64 0,.int .i64 0,.int .i64 0]),3,24):=by kernel_rfl
theorem Rw.Seen.pts {w:World} {hi:Nat} {v:Value} {l:List Pt} (h:Rw.Seen EPt w hi v l):dk w v l:=by
 obtain ⟨a,cap,rfl,h1,h2,h3⟩:=h
 refine ⟨a,cap,rfl,?_⟩
 cases l with
 | nil=>exact Or.inl rfl
 | cons p l=>
  obtain ⟨g,x,e,-⟩:=h3 0 (by simp)
  refine Or.inr ⟨g,e,fun i y hy=>?_⟩
  obtain ⟨g2,x2,e2,-,hx2,hc⟩:=h3 i (List.getElem?_eq_some_iff.1 hy).1
  rw [e] at e2
  injection e2 with e2
  injection e2 with e2
  subst e2
  rw [hy] at hx2
  obtain rfl:=Option.some.inj hx2.out
  exact ⟨hc 0 _ rfl,hc 1 _ rfl,hc 2 _ rfl⟩
theorem ik (a b:Int) (w:World) :
  Calls Tryz.prog 9 #[.agg #[.int .i64 a,.int .i64 b]] w fun e w'=>e=.returned (.agg #[.int .i64 a,.int .i64 b])∧Below w.heap.size w w':=by
 go_enter Tryz.func9,Tryz.ntmps9
 go_wp2
 exact bodyPost_ret (v:=.agg #[.int .i64 a,.int .i64 b]) (by simp [results,Tryz.results9,go_sem, *]) rfl (⟨rfl,(by repeat (first | exact Below.refl _ _ | refine aL ?_ _ | refine aM ?_ (by assumption) | refine Below.drew ?_ | refine Below.setCell ?_ (by first | exact Nat.le_refl _ | exact Nat.le_add_right _ _ | (simp <;> omega)) _ | refine aJ ?_ _))⟩)
theorem jY (a b c:Int) (w:World) :
  Calls Tryz.prog 28 #[.agg #[.int .i64 a,.int .i64 b,.int .i64 c]] w fun e w'=>e=.returned (.agg #[.int .i64 a,.int .i64 b,.int .i64 c])∧Below w.heap.size w w':=by
 go_enter Tryz.func28,Tryz.ntmps28
 go_wp2
 exact bodyPost_ret (v:=.agg #[.int .i64 a,.int .i64 b,.int .i64 c]) (by simp [results,Tryz.results28,go_sem, *]) rfl (⟨rfl,(by repeat (first | exact Below.refl _ _ | refine aL ?_ _ | refine aM ?_ (by assumption) | refine Below.drew ?_ | refine Below.setCell ?_ (by first | exact Nat.le_refl _ | exact Nat.le_add_right _ _ | (simp <;> omega)) _ | refine aJ ?_ _))⟩)
theorem jP (a b c d e f:Int) (w:World) :
  Calls Tryz.prog 31 #[.agg #[.int .i64 a,.int .i64 b,.int .i64 c],.agg #[.int .i64 d,.int .i64 e,.int .i64 f]] w fun r w'=>r=.returned (.bool (decide ((a,b,c)=(d,e,f))))∧Below w.heap.size w w':=by
 by_cases h1:a=d <;> by_cases h2:b=e <;> by_cases h3:c=f
 all_goals
  go_enter Tryz.func31,Tryz.ntmps31
  go_wp2
  go_ret;exact ⟨bB (by simp [h1,h2,h3]),(by repeat (first | exact Below.refl _ _ | refine aL ?_ _ | refine aM ?_ (by assumption) | refine Below.drew ?_ | refine Below.setCell ?_ (by first | exact Nat.le_refl _ | exact Nat.le_add_right _ _ | (simp <;> omega)) _ | refine aJ ?_ _))⟩
theorem nG {w:World} {base g n cap j:Nat} {xs:List (Int × Int × Int)} (hn:n=xs.length) (h:Rw.Own EPt w base (.slice (some ⟨g,0,none⟩) n cap) xs) (hj:j<n) (c:Int × Int × Int) {ys:List (Int × Int × Int)} (hy:ys=xs.set j c) :
  Rw.Own EPt (((w.setCell ⟨g,j*3,none⟩ (.int .i64 c.1)).setCell ⟨g,j*3+1,none⟩ (.int .i64 c.2.1)).setCell ⟨g,j*3+2,none⟩ (.int .i64 c.2.2)) base (.slice (some ⟨g,0,none⟩) n cap) ys∧w.grownBy (((w.setCell ⟨g,j*3,none⟩ (.int .i64 c.1)).setCell ⟨g,j*3+1,none⟩ (.int .i64 c.2.1)).setCell ⟨g,j*3+2,none⟩ (.int .i64 c.2.2)) (some g):=by
 subst hn hy
 have h1:=World.ownsRow.stored (g:=g) (cap:=cap) h (j*3) (.int .i64 c.1)
 have h2:=World.ownsRow.stored (g:=g) (cap:=cap) h1.1 (j*3+1) (.int .i64 c.2.1)
 have h3:=World.ownsRow.stored (g:=g) (cap:=cap) h2.1 (j*3+2) (.int .i64 c.2.2)
 refine ⟨?_,bk (bk (h1.2) h2.2) h3.2⟩
 have e:(((xs.flatMap EPt.cells).set (j*3) (.int .i64 c.1)).set (j*3+1) (.int .i64 c.2.1)).set (j*3+2) (.int .i64 c.2.2)=(xs.set j c).flatMap EPt.cells:=by
  refine List.ext_getElem? fun t=>?_
  have hl:(xs.flatMap EPt.cells).length=xs.length*3:=Rw.flat_len EPt xs
  rw [Rw.flat_set EPt xs j c hj]
  have hk:EPt.k=3:=rfl
  rw [hk]
  rcases (show t=j*3∨t=j*3+1∨t=j*3+2∨¬(j*3≤t∧t<j*3+3) by omega) with ht | ht | ht | ht
  ·subst ht
   rw [List.getElem?_set_ne (by omega),List.getElem?_set_ne (by omega),List.getElem?_set_self (by first | omega | (simp only [List.length_set];omega)),if_pos (by omega),show j*3 - j*3=0 from by omega]
   rfl
  ·subst ht
   rw [List.getElem?_set_ne (by omega),List.getElem?_set_self (by first | omega | (simp only [List.length_set];omega)),if_pos (by omega),show j*3+1 - j*3=1 from by omega]
   rfl
  ·subst ht
   rw [List.getElem?_set_self (by first | omega | (simp only [List.length_set];omega)),if_pos (by omega),show j*3+2 - j*3=2 from by omega]
   rfl
  ·rw [List.getElem?_set_ne (by omega),List.getElem?_set_ne (by omega),List.getElem?_set_ne (by omega),if_neg ht]
 have h9:=h3.1
 rw [e] at h9
 unfold Rw.Own
 rw [List.length_set]
 exact h9
theorem mQ {w:World} {base g n cap j:Nat} {xs:List (Int × Int × Int)} {c:Int × Int × Int} (hn:n=xs.length) (h:Rw.Own EPt w base (.slice (some ⟨g,0,none⟩) n cap) xs) (hc:xs[j]?=some c) :
  w.cell? ⟨g,j*3,none⟩=some (.int .i64 c.1)∧w.cell? ⟨g,j*3+1,none⟩=some (.int .i64 c.2.1)∧w.cell? ⟨g,j*3+2,none⟩=some (.int .i64 c.2.2)∧w.frozen? ⟨g,j*3,none⟩=false∧w.frozen? ⟨g,j*3+1,none⟩=false∧w.frozen? ⟨g,j*3+2,none⟩=false:=by
 have e0:=h.cellAt hn (j*3) _ ((Rw.flat_get EPt xs j 0 c hc (by decide)).trans rfl)
 have e1:=h.cellAt hn (j*3+1) _ ((Rw.flat_get EPt xs j 1 c hc (by decide)).trans rfl)
 have e2:=h.cellAt hn (j*3+2) _ ((Rw.flat_get EPt xs j 2 c hc (by decide)).trans rfl)
 exact ⟨e0.1,e1.1,e2.1,e0.2,e1.2,e2.2⟩
theorem ir (v u:Value) (xs ys:List (Int × Int × Int)) (w:World) (h1 h2:Nat) (hx:Rw.Seen EPt w h1 v xs) (hy:Rw.Seen EPt w h2 u ys) (hh1:h1≤w.heap.size) (hh2:h2≤w.heap.size) :
  Calls Tryz.prog 12 #[v,u] w fun e w'=>e=.returned (.bool (decide (xs=ys)))∧Below w.heap.size w w':=by
 obtain ⟨a,cap,rfl,hm,hm2,hv⟩:=hx
 obtain ⟨a',cap',rfl,hm',hm2',hv'⟩:=hy
 by_cases hl:xs.length=ys.length
 ·have hl':=Lib.hid hl
  rw [hl] at hv hm ⊢
  clear hl
  obtain ⟨n,hn⟩:∃ n,n=ys.length:=⟨_,rfl⟩
  rw [←hn] at hv hv' hm hm' ⊢
  have hn:=Lib.hid hn
  have hnm:(n:Int)≤9223372036854775807:=by omega
  go_enter Tryz.func12,Tryz.ntmps12
  go_wp2
  go_loopw [5] (fun vi wr=>∃ k:Nat,k≤n∧vi=.int .i64 k∧Hid (∀ j:Nat,j<k→xs[j]?=ys[j]?)∧Below w.heap.size w wr) (fun vi _=>n - (intOf vi).toNat)
  case atStart=>exact ⟨0,by omega,rfl,Lib.hid (fun j h=>by omega),Below.refl _ _⟩
  case round=>
   obtain ⟨k,hk,rfl,Hall,hbr⟩:=hrel
   by_cases hlt:k<n
   ·obtain ⟨g,x,rfl,hg,hx,hcell⟩:=hv k (by omega)
    obtain ⟨g',y,rfl,hg',hy,hcell'⟩:=hv' k hlt
    have e0_:wr.cell? ⟨g,k*3,none⟩=some (.int .i64 x.1):=(hbr.cell (p:=⟨g,k*3,none⟩) (Nat.lt_of_lt_of_le hg hh1)).trans (hcell 0 _ rfl)
    have e1_:wr.cell? ⟨g,k*3+1,none⟩=some (.int .i64 x.2.1):=(hbr.cell (p:=⟨g,k*3+1,none⟩) (Nat.lt_of_lt_of_le hg hh1)).trans (hcell 1 _ rfl)
    have e2_:wr.cell? ⟨g,k*3+2,none⟩=some (.int .i64 x.2.2):=(hbr.cell (p:=⟨g,k*3+2,none⟩) (Nat.lt_of_lt_of_le hg hh1)).trans (hcell 2 _ rfl)
    have f0_:wr.cell? ⟨g',k*3,none⟩=some (.int .i64 y.1):=(hbr.cell (p:=⟨g',k*3,none⟩) (Nat.lt_of_lt_of_le hg' hh2)).trans (hcell' 0 _ rfl)
    have f1_:wr.cell? ⟨g',k*3+1,none⟩=some (.int .i64 y.2.1):=(hbr.cell (p:=⟨g',k*3+1,none⟩) (Nat.lt_of_lt_of_le hg' hh2)).trans (hcell' 1 _ rfl)
    have f2_:wr.cell? ⟨g',k*3+2,none⟩=some (.int .i64 y.2.2):=(hbr.cell (p:=⟨g',k*3+2,none⟩) (Nat.lt_of_lt_of_le hg' hh2)).trans (hcell' 2 _ rfl)
    clear hv hv' hcell hcell'
    obtain ⟨x1,x2,x3⟩:=x
    obtain ⟨y1,y2,y3⟩:=y
    simp only [] at e0_ e1_ e2_ f0_ f1_ f2_
    have HE:=fun w=>jP x1 x2 x3 y1 y2 y3 w
    have hkk:((k:Nat):Int)<((n:Nat):Int):=by omega
    by_cases hxy:(x1,x2,x3)=(y1,y2,y3)
    ·have hd:decide ((x1,x2,x3)=(y1,y2,y3))=true:=decide_eq_true hxy
     simp only [hd] at HE
     have HE:=Lib.hid HE
     have hxy:=Lib.hid hxy
     clear hd
     go_upto_region 6 with fail
     refine Rg.walkT 10 [.is (.slice (some ⟨g,0,none⟩) n cap),.is (.int .i64 ((k:Nat):Int)),.is (.pointer (some ⟨g,k*3,none⟩)),.is (.agg #[.int .i64 x1,.int .i64 x2,.int .i64 x3]),.is (.slice (some ⟨g',0,none⟩) n cap'),.is (.int .i64 ((k:Nat):Int)),.is (.pointer (some ⟨g',k*3,none⟩)),.is (.agg #[.int .i64 y1,.int .i64 y2,.int .i64 y3]),.is (.bool true),.is (.bool false)] (by kernel_rfl) (by kernel_rfl) (by kernel_rfl) ⟨?_,?_,?_,?_,?_,?_,?_,?_,?_,?_,trivial⟩ ?_
     ·intro _ ac_ w_ hB hr
      have e0:ac_.tmps[0]?=some (.slice (some ⟨g,0,none⟩) n cap):=hr 0 (by decide)
      exact Rg.pure1 rfl (by go_simp)
     ·intro _ ac_ w_ hB hr
      have e5:ac_.tmps[5]?=some (.int .i64 ((k:Nat):Int)):=hr 5 (by decide)
      exact Rg.pure1 rfl (by go_simp)
     ·intro _ ac_ w_ hB hr
      have e17:=Rg.ev1 (hr 17 (by decide))
      have e18:=Rg.ev1 (hr 18 (by decide))
      exact Rg.pure1 rfl (by (first | (go_simp;done) | (go_simp;omega)))
     ·intro _ ac_ w_ hB hr
      have e19:=Rg.ev1 (hr 19 (by decide))
      have k0:=aE hB e0_
      have k1:=aE hB e1_
      have k2:=aE hB e2_
      exact Rg.pure1 rfl (by (first | (go_simp;done) | (go_simp;omega)))
     ·intro _ ac_ w_ hB hr
      have e1:ac_.tmps[1]?=some (.slice (some ⟨g',0,none⟩) n cap'):=hr 1 (by decide)
      exact Rg.pure1 rfl (by go_simp)
     ·intro _ ac_ w_ hB hr
      have e5:ac_.tmps[5]?=some (.int .i64 ((k:Nat):Int)):=hr 5 (by decide)
      exact Rg.pure1 rfl (by go_simp)
     ·intro _ ac_ w_ hB hr
      have e21:=Rg.ev1 (hr 21 (by decide))
      have e22:=Rg.ev1 (hr 22 (by decide))
      exact Rg.pure1 rfl (by (first | (go_simp;done) | (go_simp;omega)))
     ·intro _ ac_ w_ hB hr
      have e23:=Rg.ev1 (hr 23 (by decide))
      have k0:=aE hB f0_
      have k1:=aE hB f1_
      have k2:=aE hB f2_
      exact Rg.pure1 rfl (by (first | (go_simp;done) | (go_simp;omega)))
     ·intro _ ac_ w_ hB hr
      have e20:=Rg.ev1 (hr 20 (by decide))
      have e24:=Rg.ev1 (hr 24 (by decide))
      have ef:=Rg.ef ac_
      exact Rg.callIs rfl (by go_simp) (HE.out _)
     ·intro _ ac_ w_ hB hr
      have e25:=Rg.ev1 (hr 25 (by decide))
      exact Rg.pure1 rfl (by go_simp)
     ·intro vals wz hB hv hne
      have v_9:vals 9=.bool false:=hv 9 (by decide)
      simp only [List.take_succ_cons,List.take_zero,List.drop_succ_cons,List.drop_zero,Rg.fill,if_true,Act.put,List.setIfInBounds_toArray,List.set_cons_zero,List.set_cons_succ,Nat.zero_add,Nat.reduceAdd]
      clear hv
      simp only [v_9]
      clear v_9
      unfold Rg.tailWp
      go_wp2
      go_roundw
      case rel=>exact ⟨k+1,by omega,by go_num,Lib.hid (fun j hj=>if q:j=k then by rw [q,hx.out,hy.out,hxy.out] else Hall.out j (by omega)),hbr.trans (hB.mono hbr.size)⟩
      case measure=>simp [intOf] <;> omega
    ·have hd:decide ((x1,x2,x3)=(y1,y2,y3))=false:=decide_eq_false hxy
     simp only [hd] at HE
     have HE:=Lib.hid HE
     clear hd
     have hnq:decide (xs=ys)=false:=by
      rw [decide_eq_false_iff_not]
      intro he
      have h1:=hx.out
      rw [he,hy.out] at h1
      exact hxy (Option.some.inj h1).symm
     have hnq:=Lib.hid hnq
     have hxy:=Lib.hid hxy
     go_upto_region 6 with fail
     refine Rg.walkT 10 [.is (.slice (some ⟨g,0,none⟩) n cap),.is (.int .i64 ((k:Nat):Int)),.is (.pointer (some ⟨g,k*3,none⟩)),.is (.agg #[.int .i64 x1,.int .i64 x2,.int .i64 x3]),.is (.slice (some ⟨g',0,none⟩) n cap'),.is (.int .i64 ((k:Nat):Int)),.is (.pointer (some ⟨g',k*3,none⟩)),.is (.agg #[.int .i64 y1,.int .i64 y2,.int .i64 y3]),.is (.bool false),.is (.bool true)] (by kernel_rfl) (by kernel_rfl) (by kernel_rfl) ⟨?_,?_,?_,?_,?_,?_,?_,?_,?_,?_,trivial⟩ ?_
     ·intro _ ac_ w_ hB hr
      have e0:ac_.tmps[0]?=some (.slice (some ⟨g,0,none⟩) n cap):=hr 0 (by decide)
      exact Rg.pure1 rfl (by go_simp)
     ·intro _ ac_ w_ hB hr
      have e5:ac_.tmps[5]?=some (.int .i64 ((k:Nat):Int)):=hr 5 (by decide)
      exact Rg.pure1 rfl (by go_simp)
     ·intro _ ac_ w_ hB hr
      have e17:=Rg.ev1 (hr 17 (by decide))
      have e18:=Rg.ev1 (hr 18 (by decide))
      exact Rg.pure1 rfl (by (first | (go_simp;done) | (go_simp;omega)))
     ·intro _ ac_ w_ hB hr
      have e19:=Rg.ev1 (hr 19 (by decide))
      have k0:=aE hB e0_
      have k1:=aE hB e1_
      have k2:=aE hB e2_
      exact Rg.pure1 rfl (by (first | (go_simp;done) | (go_simp;omega)))
     ·intro _ ac_ w_ hB hr
      have e1:ac_.tmps[1]?=some (.slice (some ⟨g',0,none⟩) n cap'):=hr 1 (by decide)
      exact Rg.pure1 rfl (by go_simp)
     ·intro _ ac_ w_ hB hr
      have e5:ac_.tmps[5]?=some (.int .i64 ((k:Nat):Int)):=hr 5 (by decide)
      exact Rg.pure1 rfl (by go_simp)
     ·intro _ ac_ w_ hB hr
      have e21:=Rg.ev1 (hr 21 (by decide))
      have e22:=Rg.ev1 (hr 22 (by decide))
      exact Rg.pure1 rfl (by (first | (go_simp;done) | (go_simp;omega)))
     ·intro _ ac_ w_ hB hr
      have e23:=Rg.ev1 (hr 23 (by decide))
      have k0:=aE hB f0_
      have k1:=aE hB f1_
      have k2:=aE hB f2_
      exact Rg.pure1 rfl (by (first | (go_simp;done) | (go_simp;omega)))
     ·intro _ ac_ w_ hB hr
      have e20:=Rg.ev1 (hr 20 (by decide))
      have e24:=Rg.ev1 (hr 24 (by decide))
      have ef:=Rg.ef ac_
      exact Rg.callIs rfl (by go_simp) (HE.out _)
     ·intro _ ac_ w_ hB hr
      have e25:=Rg.ev1 (hr 25 (by decide))
      exact Rg.pure1 rfl (by go_simp)
     ·intro vals wz hB hv hne
      have v_9:vals 9=.bool true:=hv 9 (by decide)
      simp only [List.take_succ_cons,List.take_zero,List.drop_succ_cons,List.drop_zero,Rg.fill,if_true,Act.put,List.setIfInBounds_toArray,List.set_cons_zero,List.set_cons_succ,Nat.zero_add,Nat.reduceAdd]
      clear hv
      simp only [v_9]
      clear v_9
      unfold Rg.tailWp
      go_wp2
      go_ret
      exact ⟨bB hnq.out.symm,hbr.trans (hB.mono hbr.size)⟩
   ·obtain rfl:n=k:=by omega
    clear hv hv'
    have hall:decide (xs=ys)=true:=by
     rw [decide_eq_true_iff]
     refine List.ext_getElem? fun j=>?_
     rcases Nat.lt_or_ge j n with q | q
     ·exact Hall.out j q
     ·rw [List.getElem?_eq_none (l:=xs) (i:=j) (by have:=hl'.out;have:=hn.out;omega),List.getElem?_eq_none (l:=ys) (i:=j) (by have:=hn.out;omega)]
    have hall:=Lib.hid hall
    go_wp2
    go_ret
    exact ⟨bB hall.out.symm,hbr⟩
 ·have hne:Hid (decide (xs=ys)=false):=Lib.hid (by
   rw [decide_eq_false_iff_not]
   exact fun he=>hl (by rw [he]))
  have hl2:¬ ((xs.length:Int)=ys.length):=by omega
  clear hv hv'
  go_enter Tryz.func12,Tryz.ntmps12
  go_wp2
  go_ret
  exact ⟨bB hne.out.symm,(by repeat (first | exact Below.refl _ _ | refine aL ?_ _ | refine aM ?_ (by assumption) | refine Below.drew ?_ | refine Below.setCell ?_ (by first | exact Nat.le_refl _ | exact Nat.le_add_right _ _ | (simp <;> omega)) _ | refine aJ ?_ _))⟩
def bM (w:World) (v:Value) (xs:List Pt):Prop:=
 ∃ (A:Option Addr) (cap:Nat),v=.slice A xs.length cap∧(xs.length:Int)≤9223372036854775807∧
  ∀ k,k<xs.length→∃ g o x,A=some ⟨g,o,none⟩∧g<w.heap.size∧Hid (xs[k]?=some x)∧w.cell? ⟨g,o+k*3,none⟩=some (.int .i64 x.1)∧w.cell? ⟨g,o+k*3+1,none⟩=some (.int .i64 x.2.1)∧w.cell? ⟨g,o+k*3+2,none⟩=some (.int .i64 x.2.2)
theorem bM.keep {w w':World} {v:Value} {xs:List Pt} (h:bM w v xs) (hb:Below w.heap.size w w'):bM w' v xs:=by
 obtain ⟨A,cap,rfl,hm,hv⟩:=h
 refine ⟨A,cap,rfl,hm,fun k hk=>?_⟩
 obtain ⟨g,o,x,hA,hg,hx,h0,h1,h2⟩:=hv k hk
 exact ⟨g,o,x,hA,Nat.lt_of_lt_of_le hg hb.size,hx,aE hb h0,aE hb h1,aE hb h2⟩
theorem fC (v:Value) (xs:List Pt) (w:World) (hx:bM w v xs) :
  Calls Tryz.prog 7 #[v,.int .i64 1048576] w fun e w'=>e=.returned (.int .i64 (if xs.length≤1048576 then (1048576 - xs.length:Int) else -1))∧w=w':=by
 obtain ⟨A,cap,rfl,hm,hv⟩:=hx
 clear hv
 by_cases h:xs.length≤1048576
 ·rw [if_pos h]
  generalize xs.length=n at *
  go_enter Tryz.func7,Tryz.ntmps7
  go_wp2
  go_ret
  exact ⟨rfl,rfl⟩
 ·rw [if_neg h]
  generalize xs.length=n at *
  go_enter Tryz.func7,Tryz.ntmps7
  go_wp2
  go_ret
  exact ⟨rfl,rfl⟩
theorem ie (n:Nat):(madeCells #[.int .i64 0,.int .i64 0,.int .i64 0] (n*3)).toList=(List.replicate n ((0:Int),(0:Int),(0:Int))).flatMap EPt.cells:=by
 have e:(madeCells #[.int .i64 0,.int .i64 0,.int .i64 0] (n*3))=madeCells #[Value.int .i64 0] (n*3):=by
  unfold madeCells
  congr 1
  funext i
  have:i % 3=0∨i % 3=1∨i % 3=2:=by omega
  rcases this with h | h | h <;> simp [h,Nat.mod_one]
 rw [e,toList_madeCells_one]
 clear e
 induction n with
 | zero=>rfl
 | succ n ih=>
  rw [List.replicate_succ,List.flatMap_cons,←ih,show (n+1)*3=n*3+1+1+1 by omega,List.replicate_succ,List.replicate_succ,List.replicate_succ]
  rfl
theorem jc {xs:List Pt} {n j:Nat} {x:Pt} (hn:n=xs.length) (h:xs[j]?=some x):xs.take (j+1) ++ List.replicate (n - (j+1)) ((0:Int),(0:Int),(0:Int))=(xs.take j ++ List.replicate (n - j) ((0:Int),(0:Int),(0:Int))).set j x:=by
 have hj:=(List.getElem?_eq_some_iff.1 h).1
 rw [List.set_append_right _ _ (by rw [List.length_take];omega),List.length_take,show j - min j xs.length=0 by omega,show n - j=(n - (j+1))+1 by omega,List.replicate_succ,List.set_cons_zero,List.take_add_one,h]
 simp
theorem iO (v:Value) (xs:List Pt) (w:World) (hx:bM w v xs) (hn:xs.length≤1048576) :
  Calls Tryz.prog 10 #[v] w fun e w'=>∃ v',e=.returned v'∧Rw.Own EPt w' w.heap.size v' xs∧Below w.heap.size w w':=by
 obtain ⟨A,cap,rfl,hm,hv⟩:=hx
 have Hv:=Lib.hid hv
 clear hv
 obtain ⟨i0,hi,hz0,hz1,hz2⟩:=info_parts mV
 obtain ⟨w1,hrun,hown1,hg1⟩:=run_make_full (P:=Tryz.prog) w w.heap.size 30 54 i0 (.agg #[.int .i64 0,.int .i64 0,.int .i64 0]) 3 Tryz.underlying30 hi hz0 hz1 .i64 .i64 xs.length (by rw [hz2];omega) (by unfold maxLen;omega) (Nat.le_refl _)
 go_enter Tryz.func10,Tryz.ntmps10
 go_wp2
 have hown1:Rw.Own EPt w1 w.heap.size (.slice (some ⟨w.heap.size,0,none⟩) xs.length xs.length) (List.replicate xs.length ((0:Int),(0:Int),(0:Int))):=by
  unfold Rw.Own
  rw [←ie,List.length_replicate]
  exact hown1
 have hb1:Below w.heap.size w w1:=ar hg1 (Nat.le_refl _) (fun k hk=>by cases hk)
 go_loopw [4] (fun vi wr=>∃ j:Nat,j≤xs.length∧vi=.int .i64 j∧Rw.Own EPt wr w.heap.size (.slice (some ⟨w.heap.size,0,none⟩) xs.length xs.length) (xs.take j ++ List.replicate (xs.length - j) ((0:Int),(0:Int),(0:Int)))∧Below w.heap.size w wr) (fun vi _=>xs.length - (intOf vi).toNat)
 case atStart=>exact ⟨0,by omega,rfl,by simpa using hown1,hb1⟩
 case round=>
  obtain ⟨j,hj,rfl,hown,hbr⟩:=hrel
  have hlen:(xs.take j ++ List.replicate (xs.length - j) ((0:Int),(0:Int),(0:Int))).length=xs.length:=by rw [List.length_append,List.length_take,List.length_replicate];omega
  by_cases hlt:j<xs.length
  ·obtain ⟨g,o,x,rfl,hg,hx,h0,h1,h2⟩:=Hv.out j hlt
   have e0:=(hbr.cell (p:=⟨g,o+j*3,none⟩) hg).trans h0
   have e1:=(hbr.cell (p:=⟨g,o+j*3+1,none⟩) hg).trans h1
   have e2:=(hbr.cell (p:=⟨g,o+j*3+2,none⟩) hg).trans h2
   have hj0:(xs.take j ++ List.replicate (xs.length - j) ((0:Int),(0:Int),(0:Int)))[j]?=some (0,0,0):=by
    rw [List.getElem?_append_right (by rw [List.length_take];omega),List.length_take,show j - min j xs.length=0 by omega,List.getElem?_replicate]
    rw [if_pos (by omega)]
   have hzr:=hbr.size
   go_wp2_with fail
   refine (jY x.1 x.2.1 x.2.2 _).mono ?_;rintro e w2 ⟨rfl,hb2⟩
   have hown2:=hown.below hb2
   obtain ⟨c0,c1,c2,f0,f1,f2⟩:=mQ hlen.symm hown2 hj0
   have hst:=Lib.hid (nG hlen.symm hown2 hlt x (jc rfl hx.out))
   clear hlen hj0 h0 h1 h2
   go_wp2
   go_roundw
   case rel=>exact ⟨j+1,by omega,by go_num,hst.out.1,((hbr.trans (hb2.mono hzr)).grown hst.out.2 (by have:=hb2.size;omega) (fun q hq=>by cases hq;exact Nat.le_refl _))⟩
   case measure=>simp [intOf] <;> omega
  ·obtain rfl:j=xs.length:=by omega
   clear hlen
   go_wp2
   go_ret
   exact ⟨_,rfl,by simpa using hown,hbr⟩
end
section
open Go.RowKit
namespace M
theorem plist_is {a b:Int} {l:List Pt} (h:plist a b l=true):good a b=true∧1≤l.length∧l.length≤4∧∀ p ∈ l,ptOk a b p.1 p.2.1 p.2.2=true:=by
 unfold plist at h
 rw [Bool.and_eq_true,Bool.and_eq_true] at h
 obtain ⟨⟨h1,h2⟩,h3⟩:=h
 unfold ins at h2
 simp only [Bool.and_eq_true,decide_eq_true_eq] at h2
 exact ⟨h1,by omega,by omega,List.all_eq_true.1 h3⟩
theorem pick_in {s:Sp} (h:okS s):pick (s.isSome && spanOk (slo s) (shi s)) (pn (slo s))=in1 s∧pick (s.isSome && spanOk (slo s) (shi s)) (pd (slo s))=in2 s∧pick (s.isSome && spanOk (slo s) (shi s)) (pn (shi s))=in3 s∧pick (s.isSome && spanOk (slo s) (shi s)) (pd (shi s))=in4 s∧(s.isSome && spanOk (slo s) (shi s))=s.isSome:=by
 cases s with
 | none=>exact ⟨rfl,rfl,rfl,rfl,rfl⟩
 | some p=>
  have hs:=h p rfl
  have e:((some p:Sp).isSome && spanOk (slo (some p)) (shi (some p)))=true:=hs
  rw [e]
  exact ⟨rfl,rfl,rfl,rfl,rfl⟩
end M
end
section
open Go.ChangeShapes Go.WideShapes Go.ChangeAt Go.RowKit Go.Joins Go.Deep
theorem own:ownKnob Tryz.prog.godebug=none:=by kernel_rfl
theorem laidOut:laidOutB Tryz.prog=true:=by kernel_rfl
theorem M.i64_of_wf {a:Int} (h:(Lit.int .i64 a).wf=true):M.I64 a:=by
 have:=bounds_i64 h
 exact this
section
variable {H:Type} {enc:TypeId × Value→H} {P:Program} {w:World} {base:Nat} {spare:Nat→Bool} {held:Bool}
theorem open_2i {r:Reach} {b0:Nat} {t ti:TypeId} {f0 f1:Field} {v:Value} {d:DataW H} {p:List MemPlace} (hs:P.underlying t=some (.struct #[f0,f1])) (h0:f0.type=ti) (h1:f1.type=ti) (hi:P.underlying ti=some (.int .i64)) (hone:oneCellFields P #[f0,f1]=true) (hC:P.cellsOf t=2)
  (hv:Value.okWide P w r b0 t v) (h:DataW.Trod enc P w base spare held t v d p) :
  ∃ a b,v=.agg #[.int .i64 a,.int .i64 b]∧M.I64 a∧M.I64 b:=by
 obtain ⟨v0,v1,y0,y1,n,rfl,-,-,g0,g1⟩:=open_agg2 hs hone hC hv h
 rw [h0] at g0
 rw [h1] at g1
 obtain ⟨a,ea,-,wa⟩:=DataW.trod_int hi g0
 obtain ⟨b,eb,-,wb⟩:=DataW.trod_int hi g1
 simp only [List.cons.injEq,and_true] at ea eb
 subst ea eb
 exact ⟨a,b,rfl,M.i64_of_wf wa,M.i64_of_wf wb⟩
theorem dV (hl:laidOutB P=true):∀ (ts:List TypeId) (hts:∀ t ∈ ts,P.readableRec t=true∧t<P.types.size) {W W':World} {vs:List Value} {ds:List (DataW H)} {ps:List MemPlace}
  (_:DataW.TrodAll enc P W 0 (fun _=>true) true ts vs ds ps) (_:Below W.heap.size W W') (_:∀ x ∈ ps,x.block<W.heap.size),DataW.TrodAll enc P W' 0 (fun b=>decide (b<W.heap.size)) true ts vs ds ps
 | [],_,_,_,_,_,_,h,_,_=>by
  obtain ⟨rfl,rfl,rfl⟩:=trodAll_nil h
  exact trodAll_mk0
 | t :: ts,hts,_,_,_,_,_,h,hb,hlt=>by
  obtain ⟨v,vs',d,ds',p,q,rfl,rfl,rfl,h1,h2⟩:=trodAll_cons h
  refine ⟨p,q,Below.trod hl (hts t List.mem_cons_self).1 (hts t List.mem_cons_self).2 h1 hb fun x hx=>hlt x (List.mem_append_left _ hx),?_,rfl⟩
  exact dV hl ts (fun t' ht'=>hts t' (List.mem_cons_of_mem _ ht')) h2 hb fun x hx=>hlt x (List.mem_append_right _ hx)
theorem law_post {f:Func} {s:ChangeSpec} {W W':World} {args:Array Value} {ds:List (DataW H)} {before:List MemPlace} {tb:TypeId}
  (hl:laidOutB P=true) (hts:∀ t ∈ f.params.toList,P.readableRec t=true∧t<P.types.size)
  (hvars:s.vars=[]) (hf:s.fn H ds={ results:=[.lit (.bool true)],args:=ds }) (hrt:f.resultTypes=#[tb]) (hbool:P.underlying tb=some .bool)
  (hW:DataW.Whole enc P f.params.toList s.vars false W args.toList ds [] before) (hb:Below W.heap.size W W') :
  s.post enc P f false true false false W args (.bool true) W':=by
 have hlt:∀ p ∈ before,p.block<W.heap.size:=fun p hp=>hW.lt p hp
 obtain ⟨p,q,hA,hV,hpq,hz,hn⟩:=id hW
 rw [hvars] at hV
 obtain ⟨_,rfl⟩:=trodVars_none hV
 have hbp:before=p:=by simpa using hpq
 subst hbp
 have e1:s.fn H (ds ++ [])={ results:=[.lit (.bool true)],args:=ds }:=by rw [List.append_nil];exact hf
 refine ⟨ds,[],before,[],before,[],hW,?_,?_,?_,World.keptBut_mono (fun x hx=>⟨hx,Or.inr (Or.inl hx)⟩) (hb.frame (· ∈ before)),fun h=>by cases h⟩
 ·rw [e1,hrt]
  exact trodAll_mk1 (shut_bool hbool true)
 ·rw [e1]
  exact dV hl _ hts hA hb hlt
 ·rw [e1,hvars]
  exact rfl
end
def dZ (w:World) (v:Value) (xs:List Int):Prop:=
 ∃ (A:Option Addr) (cap:Nat),v=.slice A xs.length cap∧(xs.length:Int)≤9223372036854775807∧
  ∀ k,k<xs.length→∃ g o x,A=some ⟨g,o,none⟩∧g<w.heap.size∧Hid (xs[k]?=some x)∧w.cell? ⟨g,o+k,none⟩=some (.int .i64 x)
theorem dZ.keep {w w':World} {v:Value} {xs:List Int} (h:dZ w v xs) (hb:Below w.heap.size w w'):dZ w' v xs:=by
 obtain ⟨A,cap,rfl,hm,hv⟩:=h
 refine ⟨A,cap,rfl,hm,fun k hk=>?_⟩
 obtain ⟨g,o,x,hA,hg,hx,h0⟩:=hv k hk
 exact ⟨g,o,x,hA,Nat.lt_of_lt_of_le hg hb.size,hx,aE hb h0⟩
theorem open_numbers {H:Type} {enc:TypeId × Value→H} {P:Program} {w:World} {base b0:Nat} {held:Bool} {r:Reach} {t te:TypeId} {v:Value} {d:DataW H} {ps:List MemPlace}
  (ht:P.underlying t=some (.slice te)) (he:P.underlying te=some (.int .i64)) (hc:P.cellsOf te=1) (hv:Value.okWide P w r b0 t v) (h:DataW.Trod enc P w base (fun _=>true) held t v d ps) :
  ∃ xs:List Int,dZ w v xs:=by
 obtain ⟨a1,len,cap,rfl⟩:=okWide_slice ht hv
 obtain ⟨fuel,hf⟩:=h
 rcases open_ints ht he hc hf with ⟨hcs,hx⟩ | ⟨a,len',cap',zs,hcs,_,hl,hm,hz,hx,hcell,hwz⟩
 ·simp [Value.cells] at hcs
  obtain ⟨rfl,rfl,rfl⟩:=hcs
  exact ⟨[],none,0,rfl,by simp,fun k hk=>absurd hk (by simp)⟩
 ·simp [Value.cells] at hcs
  obtain ⟨rfl,rfl,rfl⟩:=hcs
  simp only [if_true] at hz
  refine ⟨zs.take len,some a,cap,by rw [List.length_take];congr 1;omega,by rw [List.length_take];unfold maxLen at hm;omega,fun k hk=>?_⟩
  rw [List.length_take] at hk
  obtain ⟨ab,ao,spot⟩:=a
  have hspot:spot=none:=by simpa [Addr.add] using World.cell?_spot (hcell 0 (by omega))
  subst hspot
  have hcj:=hcell k (by omega)
  rw [Addr.add_lit] at hcj
  refine ⟨ab,ao,zs.getD k 0,rfl,World.block_lt_of_cell? w _ hcj,Lib.hid ?_,hcj⟩
  rw [List.getElem?_take,if_pos (by omega),List.getD_eq_getElem?_getD,List.getElem?_eq_getElem (by omega)]
  rfl
theorem open_points {H:Type} {enc:TypeId × Value→H} {P:Program} {w:World} {base b0:Nat} {held:Bool} {r:Reach} {t te ti:TypeId} {f0 f1 f2:Field} {v:Value} {d:DataW H} {ps:List MemPlace}
  (ht:P.underlying t=some (.slice te)) (he:P.underlying te=some (.struct #[f0,f1,f2])) (t0:f0.type=ti) (t1:f1.type=ti) (t2:f2.type=ti) (hi:P.underlying ti=some (.int .i64)) (ce:P.cellsOf te=3) (o0:f0.offset=0) (o1:f1.offset=1) (o2:f2.offset=2)
  (ci:P.cellsOf ti=1) (hv:Value.okWide P w r b0 t v) (h:DataW.Trod enc P w base (fun _=>true) held t v d ps) :
  ∃ xs:List Pt,bM w v xs:=by
 obtain ⟨a1,len,cap,rfl⟩:=okWide_slice ht hv
 obtain ⟨fuel,hf⟩:=h
 rcases open_slice ht hf with ⟨hcs,hx⟩ | ⟨a,len',cap',m,n,D,Pl,hcs,hb,hl,hm,hmm,hx,hall⟩
 ·simp [Value.cells] at hcs
  obtain ⟨rfl,rfl,rfl⟩:=hcs
  exact ⟨[],none,0,rfl,by simp,fun k hk=>absurd hk (by simp)⟩
 ·simp [Value.cells] at hcs
  obtain ⟨rfl,rfl,rfl⟩:=hcs
  simp only [if_true] at hmm
  have each:∀ i,i<len→∃ q:Pt,w.cell? (a.add (i*3))=some (.int .i64 q.1)∧w.cell? (a.add (i*3+1))=some (.int .i64 q.2.1)∧w.cell? (a.add (i*3+2))=some (.int .i64 q.2.2):=by
   intro i hi2
   obtain ⟨cs',h1,h2⟩:=hall i (by omega)
   rw [ce] at h1
   obtain ⟨_,hlen,hcell⟩:=World.cells?_some h1
   obtain ⟨xs,k,hk,hxy,_,hxl,hfd⟩:=DataW.trod_struct he h2
   match xs,hxl,cs',hlen with
   | [y0,y1,y2],_,[v0,v1,v2],_=>
    have g0:=hfd 0 f0 rfl
    have g1:=hfd 1 f1 rfl
    have g2:=hfd 2 f2 rfl
    simp [o0,o1,o2,t0,t1,t2,ci] at g0 g1 g2
    have e0:=hcell 0 (by omega)
    have e1:=hcell 1 (by omega)
    have e2:=hcell 2 (by omega)
    rw [add_add] at e0 e1 e2
    obtain ⟨x,ex,-,-⟩:=DataW.trod_int hi g0
    obtain ⟨y,ey,-,-⟩:=DataW.trod_int hi g1
    obtain ⟨z,ez,-,-⟩:=DataW.trod_int hi g2
    simp only [List.cons.injEq,and_true] at ex ey ez
    subst ex ey ez
    refine ⟨(intOf (.int .i64 x),intOf (.int .i64 y),intOf (.int .i64 z)),?_,?_,?_⟩
    ·simpa [intOf] using e0
    ·simpa [intOf] using e1
    ·simpa [intOf] using e2
  obtain ⟨q,hq⟩:=choose_lt each
  refine ⟨(List.range len).map q,some a,cap,by simp,by simp;unfold maxLen at hm;omega,fun k hk=>?_⟩
  have hk':k<len:=by simpa using hk
  obtain ⟨h1,h2,h3⟩:=hq k hk'
  obtain ⟨ab,ao,spot⟩:=a
  have hspot:spot=none:=by simpa [Addr.add] using World.cell?_spot (hq 0 (by omega)).1
  subst hspot
  rw [Addr.add_lit] at h1 h2 h3
  exact ⟨ab,ao,q k,rfl,World.block_lt_of_cell? w _ h1,Lib.hid (by rw [List.getElem?_map,List.getElem?_range hk'];rfl),h1,by rw [Nat.add_assoc];exact h2,by rw [Nat.add_assoc];exact h3⟩
end
section
open Go.RowKit Go.Shelf
theorem iH (a b c d:Int) (w:World) :
  Calls Tryz.prog 43 #[.agg #[.int .i64 a,.int .i64 b],.agg #[.int .i64 c,.int .i64 d]] w fun e w'=>e=.returned (.bool (decide ((a,b)=(c,d))))∧Below w.heap.size w w':=by
 by_cases h1:a=c <;> by_cases h2:b=d
 all_goals
  go_enter Tryz.func43,Tryz.ntmps43
  go_wp2
  go_ret;exact ⟨bB (by simp [h1,h2]),(by repeat (first | exact Below.refl _ _ | refine aL ?_ _ | refine aM ?_ (by assumption) | refine Below.drew ?_ | refine Below.setCell ?_ (by first | exact Nat.le_refl _ | exact Nat.le_add_right _ _ | (simp <;> omega)) _ | refine aJ ?_ _))⟩
theorem gI (a1 a2 a3 a4 b1 b2 b3 b4:Int) (w:World) :
  Calls Tryz.prog 16 #[.agg #[.int .i64 a1,.int .i64 a2,.int .i64 a3,.int .i64 a4],.agg #[.int .i64 b1,.int .i64 b2,.int .i64 b3,.int .i64 b4]] w fun e w'=>e=.returned (.bool (decide ((a1,a2,a3,a4)=(b1,b2,b3,b4))))∧Below w.heap.size w w':=by
 have P1:=fun W=>iH a1 a2 b1 b2 W
 have P2:=fun W=>iH a3 a4 b3 b4 W
 have hd:decide ((a1,a2,a3,a4)=(b1,b2,b3,b4))=(decide ((a1,a2)=(b1,b2)) && decide ((a3,a4)=(b3,b4))):=by
  rw [←Bool.decide_and]
  simp only [Prod.mk.injEq]
  congr 1
  simp only [and_assoc]
 rw [hd]
 clear hd
 have B:=((Below.refl w.heap.size w).alloc (Nat.le_refl _) (.cells #[.int .i64 a1,.int .i64 a2,.int .i64 a3,.int .i64 a4] 38)).alloc (by rw [World.size_alloc];omega) (.cells #[.int .i64 b1,.int .i64 b2,.int .i64 b3,.int .i64 b4] 38)
 have Q:=(aG.new w #[.int .i64 a1,.int .i64 a2,.int .i64 a3,.int .i64 a4] 38).alloc (.cells #[.int .i64 b1,.int .i64 b2,.int .i64 b3,.int .i64 b4] 38)
 have R:=aG.new (w.alloc (.cells #[.int .i64 a1,.int .i64 a2,.int .i64 a3,.int .i64 a4] 38)) #[.int .i64 b1,.int .i64 b2,.int .i64 b3,.int .i64 b4] 38
 rw [World.size_alloc] at R
 generalize hw3:(w.alloc (.cells #[.int .i64 a1,.int .i64 a2,.int .i64 a3,.int .i64 a4] 38)).alloc (.cells #[.int .i64 b1,.int .i64 b2,.int .i64 b3,.int .i64 b4] 38)=wc at *
 have ⟨q0,q1,q2,q3,_,_,_,_,_⟩:=Q.boxQ
 have ⟨r0,r1,r2,r3,_,_,_,_,_⟩:=R.boxQ
 generalize decide ((a1,a2)=(b1,b2))=t1 at *
 generalize decide ((a3,a4)=(b3,b4))=t2 at *
 replace P1:=Lib.hid P1
 replace P2:=Lib.hid P2
 cases t1 with
 | false=>
  go_enter Tryz.func16,Tryz.ntmps16
  go_wp2_with (go_at_call 43;(with_reducible refine (P1.out _).mono ?_);rintro e w5 ⟨rfl,hb5⟩;(replace B:=B.trans (hb5.mono B.size));(replace Q:=Q.keep hb5);(replace R:=R.keep hb5);(have ⟨q0,q1,q2,q3,_,_,_,_,_⟩:=Q.boxQ);(have ⟨r0,r1,r2,r3,_,_,_,_,_⟩:=R.boxQ))
  go_ret
  exact ⟨rfl,B⟩
 | true=>
  cases t2 with
  | false=>
   go_enter Tryz.func16,Tryz.ntmps16
   go_wp2_with first | (go_at_call 43;(with_reducible refine (P1.out _).mono ?_);rintro e w5 ⟨rfl,hb5⟩;(replace B:=B.trans (hb5.mono B.size));(replace Q:=Q.keep hb5);(replace R:=R.keep hb5);(have ⟨q0,q1,q2,q3,_,_,_,_,_⟩:=Q.boxQ);(have ⟨r0,r1,r2,r3,_,_,_,_,_⟩:=R.boxQ)) | (go_at_call 43;(with_reducible refine (P2.out _).mono ?_);rintro e w6 ⟨rfl,hb6⟩;(replace B:=B.trans (hb6.mono B.size)))
   go_ret
   exact ⟨rfl,B⟩
  | true=>
   go_enter Tryz.func16,Tryz.ntmps16
   go_wp2_with first | (go_at_call 43;(with_reducible refine (P1.out _).mono ?_);rintro e w5 ⟨rfl,hb5⟩;(replace B:=B.trans (hb5.mono B.size));(replace Q:=Q.keep hb5);(replace R:=R.keep hb5);(have ⟨q0,q1,q2,q3,_,_,_,_,_⟩:=Q.boxQ);(have ⟨r0,r1,r2,r3,_,_,_,_,_⟩:=R.boxQ)) | (go_at_call 43;(with_reducible refine (P2.out _).mono ?_);rintro e w6 ⟨rfl,hb6⟩;(replace B:=B.trans (hb6.mono B.size)))
   go_ret
   exact ⟨rfl,B⟩
end
section
open Go.RowKit
namespace M
def comX (n:List Int) (i j:Nat):Int × Int:=(n.getD i 0*n.getD j 0*4096,n.getD i 0*n.getD j 0*4096)
def comRow (n:List Int) (i:Nat) (r:List (Int × Int)) (s:Sp) (j:Nat):Sp:=(List.range j).foldl (fun s c=>addS s (mulS (some (comX n i c)) (r[c]?))) s
def comTo (n:List Int) (m:Mat) (i:Nat):Sp:=(List.range i).foldl (fun s k=>comRow n k (m.getD k []) s (m.getD k []).length) (some (0,0))
def comS (n:List Int) (m:Mat):Sp:=mulS (some (2048,2048)) (comTo n m m.length)
theorem comRow_next (n:List Int) (i:Nat) (r:List (Int × Int)) (s:Sp) (j:Nat):comRow n i r s (j+1)=addS (comRow n i r s j) (mulS (some (comX n i j)) (r[j]?)):=by
 unfold comRow
 rw [List.range_succ,List.foldl_append]
 rfl
theorem comTo_next {n:List Int} {m:Mat} {i:Nat} {r:List (Int × Int)} (h:m[i]?=some r):comTo n m (i+1)=comRow n i r (comTo n m i) r.length:=by
 have e:m.getD i []=r:=by rw [List.getD_eq_getElem?_getD,h];rfl
 unfold comTo
 rw [List.range_succ,List.foldl_append]
 simp only [List.foldl_cons,List.foldl_nil]
 rw [e]
theorem d9 (n:List Int) (i:Nat) (r:List (Int × Int)):∀ j,comRow n i r none j=none
 | 0=>rfl
 | j+1=>by rw [comRow_next,d9 n i r j];rfl
theorem comRow_stop {n:List Int} {i:Nat} {r:List (Int × Int)} {s:Sp} {j:Nat} (h:comRow n i r s j=none):∀ k,j≤k→comRow n i r s k=none
 | 0,hk=>by
  obtain rfl:j=0:=by omega
  exact h
 | k+1,hk=>by
  rcases Nat.lt_or_ge k j with q | q
  ·obtain rfl:j=k+1:=by omega
   exact h
  ·rw [comRow_next,comRow_stop h k q];rfl
theorem comTo_stop {n:List Int} {m:Mat} {i:Nat} (h:comTo n m i=none):∀ k,i≤k→k≤m.length→comTo n m k=none
 | 0,hk,_=>by
  obtain rfl:i=0:=by omega
  exact h
 | k+1,hk,hl=>by
  rcases Nat.lt_or_ge k i with q | q
  ·obtain rfl:i=k+1:=by omega
   exact h
  ·rw [comTo_next (List.getElem?_eq_getElem (show k<m.length by omega)),comTo_stop h k q (by omega),d9]
theorem comS_none {n:List Int} {m:Mat} (h:comTo n m m.length=none):comS n m=none:=by unfold comS;rw [h];rfl
theorem okS_comRow {n:List Int} {i:Nat} {r:List (Int × Int)} {s:Sp} (hs:okS s):∀ j,okS (comRow n i r s j)
 | 0=>hs
 | j+1=>by rw [comRow_next];exact jF
theorem kt:okS (some (0,0)):=fun p hp=>by
 have:(0,0)=p:=Option.some.inj hp
 subst this
 decide
theorem okS_comTo {n:List Int} {m:Mat}:∀ i,okS (comTo n m i)
 | 0=>kt
 | i+1=>by
  unfold comTo
  rw [List.range_succ,List.foldl_append]
  exact okS_comRow (okS_comTo i) _
theorem fits_is {n:List Int} {k:Nat} (h:fits n k=true):n.length=k∧∀ x ∈ n,-12≤x∧x≤12:=by
 unfold fits at h
 rw [Bool.and_eq_true,beq_iff_eq] at h
 refine ⟨by omega,fun x hx=>?_⟩
 have:=List.all_eq_true.1 h.2 x hx
 unfold ins at this
 simp only [Bool.and_eq_true,decide_eq_true_eq] at this
 exact this
theorem fits_at {n:List Int} {k i:Nat} (h:fits n k=true) (hi:i<k):n[i]?=some (n.getD i 0)∧-12≤n.getD i 0∧n.getD i 0≤12:=by
 obtain ⟨h1,h2⟩:=fits_is h
 have e:n[i]?=some (n[i]'(by omega)):=List.getElem?_eq_getElem (by omega)
 have e2:n.getD i 0=n[i]'(by omega):=by rw [List.getD_eq_getElem?_getD,e];rfl
 rw [e2]
 exact ⟨e,h2 _ (List.getElem_mem _)⟩
theorem prod12 {x y:Int} (h1:-12≤x) (h2:x≤12) (h3:-12≤y) (h4:y≤12):-144≤x*y∧x*y≤144:=by
 have:=M.mul_bd (x:=x) (y:=y) (m:=12) (n:=12) (by omega) (by omega) (by omega) (by omega)
 omega
theorem okS_comX {n:List Int} {k i j:Nat} (h:fits n k=true) (hi:i<k) (hj:j<k):okS (some (comX n i j)):=fun p hp=>by
 have:comX n i j=p:=Option.some.inj hp
 subst this
 obtain ⟨-,a1,a2⟩:=fits_at h hi
 obtain ⟨-,b1,b2⟩:=fits_at h hj
 have:=prod12 a1 a2 b1 b2
 unfold comX spanOk
 simp only [Bool.and_eq_true,decide_eq_true_eq]
 omega
theorem com_step (s x q:Sp):gd (gd s.isSome (mulS x q)).isSome (addS s (gd s.isSome (mulS x q)))=addS s (mulS x q):=by
 cases s with
 | none=>rfl
 | some p=>
  show gd (mulS x q).isSome (addS (some p) (mulS x q))=addS (some p) (mulS x q)
  cases mulS x q <;> rfl
theorem com_last (s x:Sp):gd s.isSome (mulS x s)=mulS x s:=by
 cases s with
 | none=>cases x <;> rfl
 | some p=>rfl
noncomputable def comOk (a b:Int) (l:List Pt) (n:List Int):Bool:=plist a b l && fits n l.length
noncomputable def comV (a b:Int) (l:List Pt) (n:List Int):Sp:=if (comOk a b l n && mOk a b l)=true then comS n (pRows a b l) else none
theorem comV_no {a b:Int} {l:List Pt} {n:List Int} (h:(comOk a b l n && mOk a b l)=false):comV a b l n=none:=by unfold comV;rw [h];rfl
theorem comV_yes {a b:Int} {l:List Pt} {n:List Int} (h:(comOk a b l n && mOk a b l)=true):comV a b l n=comS n (pRows a b l):=by unfold comV;rw [h];rfl
theorem half_in:in1 (some (2048,2048))=1∧in2 (some (2048,2048))=2∧in3 (some (2048,2048))=1∧in4 (some (2048,2048))=2:=by
 have hf:=eS (a:=2048) (g:=2048) (q:=2) (n:=1) (by decide) (by decide) (by decide) (by decide)
 have ho:ck 1 2=true:=by decide
 rw [ho,if_pos rfl] at hf
 have k1:pn 2048=1:=by unfold pn;rw [hf];rfl
 have k2:pd 2048=2:=by unfold pd;rw [hf];rfl
 exact ⟨k1,k2,k1,k2⟩
end M
end
end Go.Proofs.YthfjndmdalfloaaGreat
