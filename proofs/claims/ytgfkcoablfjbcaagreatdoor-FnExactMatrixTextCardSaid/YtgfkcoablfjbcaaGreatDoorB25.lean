/-
  Joined texts: contracts and plain lemmas.
-/
import Derived.Test.YtgfkcoablfjbcaaGreatDoorB1
import Derived.Test.YtgfkcoablfjbcaaGreatDoorB24
import Derived.Laws.IdiomCopy
import Derived.Shelf.Abstract
import Derived.Test.YtgfkcoablfjbcaaGreatDoorRows
import Derived.WalkKit
import Derived.ProofKit
import Derived.OpenShut
import Derived.Lib.SmallJoins
import Derived.Below
import Derived.Carry
import Derived.Deep.Slices
import Derived.Test.YtgfkcoablfjbcaaGreatDoorB2
import Derived.Lib.ItoaNum
import Derived.Laws.BytesArg
import Derived.Laws.Concat
import Derived.Deep.RegionHeld3
import Derived.Deep.DeepCutAuto
import Derived.Test.YtgfkcoablfjbcaaGreatDoorB14
import Derived.Deep.RegionWith
import Derived.Outline
import Derived.Lib.ItoaMem
import Derived.Lib.Join
import Derived.Test.YtgfkcoablfjbcaaGreatDoorShS
import Derived.Lib.AppendIntMem
import Derived.Test.YtgfkcoablfjbcaaGreatDoorB8
set_option linter.unusedSimpArgs false
set_option linter.unusedVariables false
set_option maxRecDepth 100000
set_option maxHeartbeats 8000000
namespace Go.Proofs.YtgfkcoablfjbcaaGreatDoor
section
open Go.RowKit Go.Shelf
def EPt:Rw.Enc (Int × Int × Int) where
 t:=45
 k:=3
 cells:=fun q=>[.int .i64 q.1,.int .i64 q.2.1,.int .i64 q.2.2]
 len:=fun _=>rfl
 one:=fun x u hu=>by simp only [List.mem_cons,List.not_mem_nil,or_false] at hu;rcases hu with rfl | rfl | rfl <;> rfl
 pos:=by decide
theorem tc:(Tryz.prog.info? 45).map (fun i=>(i.zero,i.size,i.bytes))=some (some (.agg #[.int .i64 0,.int .i64 0,.int .i64 0]),3,24):=by kernel_rfl
theorem Rw.Seen.pts {w:World} {hi:Nat} {v:Value} {l:List Pt} (h:Rw.Seen EPt w hi v l):fc w v l:=by
 obtain ⟨a,cap,rfl,h1,h2,h3⟩:=h
 refine ⟨a,cap,rfl,?_⟩
 cases l with
 | nil=>exact Or.inl rfl
 | cons p l=>
 obtain ⟨g,x,e,-⟩:=h3 0 (by simp)
 refine Or.inr ⟨g,e,fun i y hy=>?_⟩
 obtain ⟨g2,x2,e2,-,hx2,hc⟩:=h3 i (List.getElem?_eq_some_iff.1 hy).1
 rw [e] at e2
 injection e2 with e2
 injection e2 with e2
 subst e2
 rw [hy] at hx2
 obtain rfl:=Option.some.inj hx2.out
 exact ⟨hc 0 _ rfl,hc 1 _ rfl,hc 2 _ rfl⟩
theorem nF (a b:Int) (w:World) :
  Calls Tryz.prog 6 #[.agg #[.int .i64 a,.int .i64 b]] w fun e w'=>e=.returned (.agg #[.int .i64 a,.int .i64 b])∧Below w.heap.size w w':=by
 go_enter Tryz.func6,Tryz.ntmps6
 go_wp2
 exact bodyPost_ret (v:=.agg #[.int .i64 a,.int .i64 b]) (by simp [results,Tryz.results6,go_sem, *]) rfl (⟨rfl,(by repeat (first | exact uk _ _ | refine aP ?_ _ | refine aS ?_ (by assumption) | refine Below.drew ?_ | refine uj ?_ (by first | exact ul _ | exact Nat.le_add_right _ _ | (simp <;> omega)) _ | refine aK ?_ _))⟩)
theorem pX (a b c:Int) (w:World) :
  Calls Tryz.prog 13 #[.agg #[.int .i64 a,.int .i64 b,.int .i64 c]] w fun e w'=>e=.returned (.agg #[.int .i64 a,.int .i64 b,.int .i64 c])∧Below w.heap.size w w':=by
 go_enter Tryz.func13,Tryz.ntmps13
 go_wp2
 exact bodyPost_ret (v:=.agg #[.int .i64 a,.int .i64 b,.int .i64 c]) (by simp [results,Tryz.results13,go_sem, *]) rfl (⟨rfl,(by repeat (first | exact uk _ _ | refine aP ?_ _ | refine aS ?_ (by assumption) | refine Below.drew ?_ | refine uj ?_ (by first | exact ul _ | exact Nat.le_add_right _ _ | (simp <;> omega)) _ | refine aK ?_ _))⟩)
theorem oj (a b c d e f:Int) (w:World) :
  Calls Tryz.prog 16 #[.agg #[.int .i64 a,.int .i64 b,.int .i64 c],.agg #[.int .i64 d,.int .i64 e,.int .i64 f]] w fun r w'=>r=.returned (.bool (decide ((a,b,c)=(d,e,f))))∧Below w.heap.size w w':=by
 by_cases h1:a=d <;> by_cases h2:b=e <;> by_cases h3:c=f
 all_goals
  go_enter Tryz.func16,Tryz.ntmps16
  go_wp2
  go_ret;exact ⟨cy (by simp [h1,h2,h3]),(by repeat (first | exact uk _ _ | refine aP ?_ _ | refine aS ?_ (by assumption) | refine Below.drew ?_ | refine uj ?_ (by first | exact ul _ | exact Nat.le_add_right _ _ | (simp <;> omega)) _ | refine aK ?_ _))⟩
theorem ua {w:World} {base g n cap j:Nat} {xs:List (Int × Int × Int)} (hn:n=xs.length) (h:Rw.Own EPt w base (.slice (some ⟨g,0,none⟩) n cap) xs) (hj:j<n) (c:Int × Int × Int) {ys:List (Int × Int × Int)} (hy:ys=xs.set j c) :
  Rw.Own EPt (((w.setCell ⟨g,j*3,none⟩ (.int .i64 c.1)).setCell ⟨g,j*3+1,none⟩ (.int .i64 c.2.1)).setCell ⟨g,j*3+2,none⟩ (.int .i64 c.2.2)) base (.slice (some ⟨g,0,none⟩) n cap) ys∧w.grownBy (((w.setCell ⟨g,j*3,none⟩ (.int .i64 c.1)).setCell ⟨g,j*3+1,none⟩ (.int .i64 c.2.1)).setCell ⟨g,j*3+2,none⟩ (.int .i64 c.2.2)) (some g):=by
 subst hn hy
 have h1:=World.ownsRow.stored (g:=g) (cap:=cap) h (j*3) (.int .i64 c.1)
 have h2:=World.ownsRow.stored (g:=g) (cap:=cap) h1.1 (j*3+1) (.int .i64 c.2.1)
 have h3:=World.ownsRow.stored (g:=g) (cap:=cap) h2.1 (j*3+2) (.int .i64 c.2.2)
 refine ⟨?_,dV (dV (h1.2) h2.2) h3.2⟩
 have e:(((xs.flatMap EPt.cells).set (j*3) (.int .i64 c.1)).set (j*3+1) (.int .i64 c.2.1)).set (j*3+2) (.int .i64 c.2.2)=(xs.set j c).flatMap EPt.cells:=by
  refine List.ext_getElem? fun t=>?_
  have hl:(xs.flatMap EPt.cells).length=xs.length*3:=Rw.cN EPt xs
  rw [Rw.ij EPt xs j c hj]
  have hk:EPt.k=3:=rfl
  rw [hk]
  rcases (show t=j*3∨t=j*3+1∨t=j*3+2∨¬(j*3≤t∧t<j*3+3) by omega) with ht | ht | ht | ht
  ·subst ht
   rw [List.getElem?_set_ne (by omega),List.getElem?_set_ne (by omega),List.getElem?_set_self (by first | omega | (simp only [List.length_set];omega)),if_pos (by omega),show j*3 - j*3=0 from by omega]
   rfl
  ·subst ht
   rw [List.getElem?_set_ne (by omega),List.getElem?_set_self (by first | omega | (simp only [List.length_set];omega)),if_pos (by omega),show j*3+1 - j*3=1 from by omega]
   rfl
  ·subst ht
   rw [List.getElem?_set_self (by first | omega | (simp only [List.length_set];omega)),if_pos (by omega),show j*3+2 - j*3=2 from by omega]
   rfl
  rw [List.getElem?_set_ne (by omega),List.getElem?_set_ne (by omega),List.getElem?_set_ne (by omega),if_neg ht]
 have h9:=h3.1
 rw [e] at h9
 unfold Rw.Own
 rw [List.length_set]
 exact h9
theorem tR {w:World} {base g n cap j:Nat} {xs:List (Int × Int × Int)} {c:Int × Int × Int} (hn:n=xs.length) (h:Rw.Own EPt w base (.slice (some ⟨g,0,none⟩) n cap) xs) (hc:xs[j]?=some c) :
  w.cell? ⟨g,j*3,none⟩=some (.int .i64 c.1)∧w.cell? ⟨g,j*3+1,none⟩=some (.int .i64 c.2.1)∧w.cell? ⟨g,j*3+2,none⟩=some (.int .i64 c.2.2)∧w.frozen? ⟨g,j*3,none⟩=false∧w.frozen? ⟨g,j*3+1,none⟩=false∧w.frozen? ⟨g,j*3+2,none⟩=false:=by
 have e0:=h.cellAt hn (j*3) _ ((Rw.flat_get EPt xs j 0 c hc (by decide)).trans rfl)
 have e1:=h.cellAt hn (j*3+1) _ ((Rw.flat_get EPt xs j 1 c hc (by decide)).trans rfl)
 have e2:=h.cellAt hn (j*3+2) _ ((Rw.flat_get EPt xs j 2 c hc (by decide)).trans rfl)
 exact ⟨e0.1,e1.1,e2.1,e0.2,e1.2,e2.2⟩
theorem mZ (v u:Value) (xs ys:List (Int × Int × Int)) (w:World) (h1 h2:Nat) (hx:Rw.Seen EPt w h1 v xs) (hy:Rw.Seen EPt w h2 u ys) (hh1:h1≤w.heap.size) (hh2:h2≤w.heap.size) :
  Calls Tryz.prog 9 #[v,u] w fun e w'=>e=.returned (.bool (decide (xs=ys)))∧Below w.heap.size w w':=by
 obtain ⟨a,cap,rfl,hm,hm2,hv⟩:=hx
 obtain ⟨a',cap',rfl,hm',hm2',hv'⟩:=hy
 by_cases hl:xs.length=ys.length
 ·have hl':=uh hl
  rw [hl] at hv hm ⊢
  clear hl
  obtain ⟨n,hn⟩:∃ n,n=ys.length:=⟨_,rfl⟩
  rw [←hn] at hv hv' hm hm' ⊢
  have hn:=uh hn
  have hnm:(n:Int)≤9223372036854775807:=by omega
  go_enter Tryz.func9,Tryz.ntmps9
  go_wp2
  go_loopw [5] (fun vi wr=>∃ k:Nat,k≤n∧vi=.int .i64 k∧Hid (∀ j:Nat,j<k→xs[j]?=ys[j]?)∧Below w.heap.size w wr) (fun vi _=>n - (intOf vi).toNat)
  case atStart=>exact ⟨0,by omega,rfl,uh (fun j h=>by omega),uk _ _⟩
  case round=>
  obtain ⟨k,hk,rfl,Hall,hbr⟩:=hrel
  by_cases hlt:k<n
  ·obtain ⟨g,x,rfl,hg,hx,hcell⟩:=hv k (by omega)
   obtain ⟨g',y,rfl,hg',hy,hcell'⟩:=hv' k hlt
   have e0_:wr.cell? ⟨g,k*3,none⟩=some (.int .i64 x.1):=(hbr.cell (p:=⟨g,k*3,none⟩) (Nat.lt_of_lt_of_le hg hh1)).trans (hcell 0 _ rfl)
   have e1_:wr.cell? ⟨g,k*3+1,none⟩=some (.int .i64 x.2.1):=(hbr.cell (p:=⟨g,k*3+1,none⟩) (Nat.lt_of_lt_of_le hg hh1)).trans (hcell 1 _ rfl)
   have e2_:wr.cell? ⟨g,k*3+2,none⟩=some (.int .i64 x.2.2):=(hbr.cell (p:=⟨g,k*3+2,none⟩) (Nat.lt_of_lt_of_le hg hh1)).trans (hcell 2 _ rfl)
   have f0_:wr.cell? ⟨g',k*3,none⟩=some (.int .i64 y.1):=(hbr.cell (p:=⟨g',k*3,none⟩) (Nat.lt_of_lt_of_le hg' hh2)).trans (hcell' 0 _ rfl)
   have f1_:wr.cell? ⟨g',k*3+1,none⟩=some (.int .i64 y.2.1):=(hbr.cell (p:=⟨g',k*3+1,none⟩) (Nat.lt_of_lt_of_le hg' hh2)).trans (hcell' 1 _ rfl)
   have f2_:wr.cell? ⟨g',k*3+2,none⟩=some (.int .i64 y.2.2):=(hbr.cell (p:=⟨g',k*3+2,none⟩) (Nat.lt_of_lt_of_le hg' hh2)).trans (hcell' 2 _ rfl)
   clear hv hv' hcell hcell'
   obtain ⟨x1,x2,x3⟩:=x
   obtain ⟨y1,y2,y3⟩:=y
   simp only [] at e0_ e1_ e2_ f0_ f1_ f2_
   have HE:=fun w=>oj x1 x2 x3 y1 y2 y3 w
   have hkk:((k:Nat):Int)<((n:Nat):Int):=by omega
   by_cases hxy:(x1,x2,x3)=(y1,y2,y3)
   ·have hd:decide ((x1,x2,x3)=(y1,y2,y3))=true:=decide_eq_true hxy
    simp only [hd] at HE
    have HE:=uh HE
    have hxy:=uh hxy
    clear hd
    go_upto_region 6 with fail
    refine Rg.bF 10 [.is (.slice (some ⟨g,0,none⟩) n cap),.is (.int .i64 ((k:Nat):Int)),.is (.pointer (some ⟨g,k*3,none⟩)),.is (.agg #[.int .i64 x1,.int .i64 x2,.int .i64 x3]),.is (.slice (some ⟨g',0,none⟩) n cap'),.is (.int .i64 ((k:Nat):Int)),.is (.pointer (some ⟨g',k*3,none⟩)),.is (.agg #[.int .i64 y1,.int .i64 y2,.int .i64 y3]),.is (.bool true),.is (.bool false)] (by kernel_rfl) (by kernel_rfl) (by kernel_rfl) ⟨?_,?_,?_,?_,?_,?_,?_,?_,?_,?_,trivial⟩ ?_
    ·intro _ ac_ w_ hB hr
     have e0:ac_.tmps[0]?=some (.slice (some ⟨g,0,none⟩) n cap):=hr 0 (by decide)
     exact Rg.aG rfl (by go_simp)
    ·intro _ ac_ w_ hB hr
     have e5:ac_.tmps[5]?=some (.int .i64 ((k:Nat):Int)):=hr 5 (by decide)
     exact Rg.aG rfl (by go_simp)
    ·intro _ ac_ w_ hB hr
     have e17:=Rg.ev1 (hr 17 (by decide))
     have e18:=Rg.ev1 (hr 18 (by decide))
     exact Rg.aG rfl (by (first | (go_simp;done) | (go_simp;omega)))
    ·intro _ ac_ w_ hB hr
     have e19:=Rg.ev1 (hr 19 (by decide))
     have k0:=aE hB e0_
     have k1:=aE hB e1_
     have k2:=aE hB e2_
     exact Rg.aG rfl (by (first | (go_simp;done) | (go_simp;omega)))
    ·intro _ ac_ w_ hB hr
     have e1:ac_.tmps[1]?=some (.slice (some ⟨g',0,none⟩) n cap'):=hr 1 (by decide)
     exact Rg.aG rfl (by go_simp)
    ·intro _ ac_ w_ hB hr
     have e5:ac_.tmps[5]?=some (.int .i64 ((k:Nat):Int)):=hr 5 (by decide)
     exact Rg.aG rfl (by go_simp)
    ·intro _ ac_ w_ hB hr
     have e21:=Rg.ev1 (hr 21 (by decide))
     have e22:=Rg.ev1 (hr 22 (by decide))
     exact Rg.aG rfl (by (first | (go_simp;done) | (go_simp;omega)))
    ·intro _ ac_ w_ hB hr
     have e23:=Rg.ev1 (hr 23 (by decide))
     have k0:=aE hB f0_
     have k1:=aE hB f1_
     have k2:=aE hB f2_
     exact Rg.aG rfl (by (first | (go_simp;done) | (go_simp;omega)))
    ·intro _ ac_ w_ hB hr
     have e20:=Rg.ev1 (hr 20 (by decide))
     have e24:=Rg.ev1 (hr 24 (by decide))
     have ef:=Rg.ef ac_
     exact Rg.bK rfl (by go_simp) (HE.out _)
    ·intro _ ac_ w_ hB hr
     have e25:=Rg.ev1 (hr 25 (by decide))
     exact Rg.aG rfl (by go_simp)
    intro vals wz hB hv hne
    have v_9:vals 9=.bool false:=hv 9 (by decide)
    simp only [Rg.am,Rg.fill,Act.put,Nat.reduceAdd]
    clear hv
    simp only [v_9]
    clear v_9
    unfold Rg.aV
    go_wp2
    go_roundw
    case rel=>exact ⟨k+1,by omega,by go_num,uh (fun j hj=>if q:j=k then by rw [q,hx.out,hy.out,hxy.out] else Hall.out j (by omega)),hbr.trans (hB.mono hbr.size)⟩
    case measure=>simp [intOf] <;> omega
   have hd:decide ((x1,x2,x3)=(y1,y2,y3))=false:=decide_eq_false hxy
   simp only [hd] at HE
   have HE:=uh HE
   clear hd
   have hnq:decide (xs=ys)=false:=by
    rw [decide_eq_false_iff_not]
    intro he
    have h1:=hx.out
    rw [he,hy.out] at h1
    exact hxy (Option.some.inj h1).symm
   have hnq:=uh hnq
   have hxy:=uh hxy
   go_upto_region 6 with fail
   refine Rg.bF 10 [.is (.slice (some ⟨g,0,none⟩) n cap),.is (.int .i64 ((k:Nat):Int)),.is (.pointer (some ⟨g,k*3,none⟩)),.is (.agg #[.int .i64 x1,.int .i64 x2,.int .i64 x3]),.is (.slice (some ⟨g',0,none⟩) n cap'),.is (.int .i64 ((k:Nat):Int)),.is (.pointer (some ⟨g',k*3,none⟩)),.is (.agg #[.int .i64 y1,.int .i64 y2,.int .i64 y3]),.is (.bool false),.is (.bool true)] (by kernel_rfl) (by kernel_rfl) (by kernel_rfl) ⟨?_,?_,?_,?_,?_,?_,?_,?_,?_,?_,trivial⟩ ?_
   ·intro _ ac_ w_ hB hr
    have e0:ac_.tmps[0]?=some (.slice (some ⟨g,0,none⟩) n cap):=hr 0 (by decide)
    exact Rg.aG rfl (by go_simp)
   ·intro _ ac_ w_ hB hr
    have e5:ac_.tmps[5]?=some (.int .i64 ((k:Nat):Int)):=hr 5 (by decide)
    exact Rg.aG rfl (by go_simp)
   ·intro _ ac_ w_ hB hr
    have e17:=Rg.ev1 (hr 17 (by decide))
    have e18:=Rg.ev1 (hr 18 (by decide))
    exact Rg.aG rfl (by (first | (go_simp;done) | (go_simp;omega)))
   ·intro _ ac_ w_ hB hr
    have e19:=Rg.ev1 (hr 19 (by decide))
    have k0:=aE hB e0_
    have k1:=aE hB e1_
    have k2:=aE hB e2_
    exact Rg.aG rfl (by (first | (go_simp;done) | (go_simp;omega)))
   ·intro _ ac_ w_ hB hr
    have e1:ac_.tmps[1]?=some (.slice (some ⟨g',0,none⟩) n cap'):=hr 1 (by decide)
    exact Rg.aG rfl (by go_simp)
   ·intro _ ac_ w_ hB hr
    have e5:ac_.tmps[5]?=some (.int .i64 ((k:Nat):Int)):=hr 5 (by decide)
    exact Rg.aG rfl (by go_simp)
   ·intro _ ac_ w_ hB hr
    have e21:=Rg.ev1 (hr 21 (by decide))
    have e22:=Rg.ev1 (hr 22 (by decide))
    exact Rg.aG rfl (by (first | (go_simp;done) | (go_simp;omega)))
   ·intro _ ac_ w_ hB hr
    have e23:=Rg.ev1 (hr 23 (by decide))
    have k0:=aE hB f0_
    have k1:=aE hB f1_
    have k2:=aE hB f2_
    exact Rg.aG rfl (by (first | (go_simp;done) | (go_simp;omega)))
   ·intro _ ac_ w_ hB hr
    have e20:=Rg.ev1 (hr 20 (by decide))
    have e24:=Rg.ev1 (hr 24 (by decide))
    have ef:=Rg.ef ac_
    exact Rg.bK rfl (by go_simp) (HE.out _)
   ·intro _ ac_ w_ hB hr
    have e25:=Rg.ev1 (hr 25 (by decide))
    exact Rg.aG rfl (by go_simp)
   intro vals wz hB hv hne
   have v_9:vals 9=.bool true:=hv 9 (by decide)
   simp only [Rg.am,Rg.fill,Act.put,Nat.reduceAdd]
   clear hv
   simp only [v_9]
   clear v_9
   unfold Rg.aV
   go_wp2
   go_ret
   exact ⟨cy hnq.out.symm,hbr.trans (hB.mono hbr.size)⟩
  obtain rfl:n=k:=by omega
  clear hv hv'
  have hall:decide (xs=ys)=true:=by
   rw [decide_eq_true_iff]
   refine List.ext_getElem? fun j=>?_
   rcases Nat.lt_or_ge j n with q | q
   ·exact Hall.out j q
   rw [List.getElem?_eq_none (l:=xs) (i:=j) (by have:=hl'.out;have:=hn.out;omega),List.getElem?_eq_none (l:=ys) (i:=j) (by have:=hn.out;omega)]
  have hall:=uh hall
  go_wp2
  go_ret
  exact ⟨cy hall.out.symm,hbr⟩
 have hne:Hid (decide (xs=ys)=false):=uh (by
  rw [decide_eq_false_iff_not]
  exact fun he=>hl (by rw [he]))
 have hl2:¬ ((xs.length:Int)=ys.length):=by omega
 clear hv hv'
 go_enter Tryz.func9,Tryz.ntmps9
 go_wp2
 go_ret
 exact ⟨cy hne.out.symm,(by repeat (first | exact uk _ _ | refine aP ?_ _ | refine aS ?_ (by assumption) | refine Below.drew ?_ | refine uj ?_ (by first | exact ul _ | exact Nat.le_add_right _ _ | (simp <;> omega)) _ | refine aK ?_ _))⟩
def cn (w:World) (v:Value) (xs:List Pt):Prop:=
 ∃ (A:Option Addr) (cap:Nat),v=.slice A xs.length cap∧(xs.length:Int)≤9223372036854775807∧
  ∀ k,k<xs.length→∃ g o x,A=some ⟨g,o,none⟩∧g<w.heap.size∧Hid (xs[k]?=some x)∧w.cell? ⟨g,o+k*3,none⟩=some (.int .i64 x.1)∧w.cell? ⟨g,o+k*3+1,none⟩=some (.int .i64 x.2.1)∧w.cell? ⟨g,o+k*3+2,none⟩=some (.int .i64 x.2.2)
theorem cn.keep {w w':World} {v:Value} {xs:List Pt} (h:cn w v xs) (hb:Below w.heap.size w w'):cn w' v xs:=by
 obtain ⟨A,cap,rfl,hm,hv⟩:=h
 refine ⟨A,cap,rfl,hm,fun k hk=>?_⟩
 obtain ⟨g,o,x,hA,hg,hx,h0,h1,h2⟩:=hv k hk
 exact ⟨g,o,x,hA,Nat.lt_of_lt_of_le hg hb.size,hx,aE hb h0,aE hb h1,aE hb h2⟩
theorem jJ (v:Value) (xs:List Pt) (w:World) (hx:cn w v xs) :
  Calls Tryz.prog 4 #[v,.int .i64 1048576] w fun e w'=>e=.returned (.int .i64 (if xs.length≤1048576 then (1048576 - xs.length:Int) else -1))∧w=w':=by
 obtain ⟨A,cap,rfl,hm,hv⟩:=hx
 clear hv
 by_cases h:xs.length≤1048576
 ·rw [if_pos h]
  generalize xs.length=n at *
  go_enter Tryz.func4,Tryz.ntmps4
  go_wp2
  go_ret
  exact ⟨rfl,rfl⟩
 rw [if_neg h]
 generalize xs.length=n at *
 go_enter Tryz.func4,Tryz.ntmps4
 go_wp2
 go_ret
 exact ⟨rfl,rfl⟩
theorem mi (n:Nat):(madeCells #[.int .i64 0,.int .i64 0,.int .i64 0] (n*3)).toList=(List.replicate n ((0:Int),(0:Int),(0:Int))).flatMap EPt.cells:=by
 have e:(madeCells #[.int .i64 0,.int .i64 0,.int .i64 0] (n*3))=madeCells #[Value.int .i64 0] (n*3):=by
  unfold madeCells
  congr 1
  funext i
  have:i % 3=0∨i % 3=1∨i % 3=2:=by omega
  rcases this with h | h | h <;> simp [h,Nat.mod_one]
 rw [e,toList_madeCells_one]
 clear e
 induction n with
 | zero=>rfl
 | succ n ih=>
 rw [List.replicate_succ,List.flatMap_cons,←ih,show (n+1)*3=n*3+1+1+1 by omega,List.replicate_succ,List.replicate_succ,List.replicate_succ]
 rfl
theorem oc {xs:List Pt} {n j:Nat} {x:Pt} (hn:n=xs.length) (h:xs[j]?=some x):xs.take (j+1) ++ List.replicate (n - (j+1)) ((0:Int),(0:Int),(0:Int))=(xs.take j ++ List.replicate (n - j) ((0:Int),(0:Int),(0:Int))).set j x:=by
 have hj:=(List.getElem?_eq_some_iff.1 h).1
 rw [List.set_append_right _ _ (by rw [List.length_take];omega),List.length_take,show j - min j xs.length=0 by omega,show n - j=(n - (j+1))+1 by omega,List.replicate_succ,List.set_cons_zero,List.take_add_one,h]
 simp
theorem nG (v:Value) (xs:List Pt) (w:World) (hx:cn w v xs) (hn:xs.length≤1048576) :
  Calls Tryz.prog 7 #[v] w fun e w'=>∃ v',e=.returned v'∧Rw.Own EPt w' w.heap.size v' xs∧Below w.heap.size w w':=by
 obtain ⟨A,cap,rfl,hm,hv⟩:=hx
 have Hv:=uh hv
 clear hv
 obtain ⟨i0,hi,hz0,hz1,hz2⟩:=info_parts tc
 obtain ⟨w1,hrun,hown1,hg1⟩:=run_make_full (P:=Tryz.prog) w w.heap.size 30 45 i0 (.agg #[.int .i64 0,.int .i64 0,.int .i64 0]) 3 Tryz.underlying30 hi hz0 hz1 .i64 .i64 xs.length (by rw [hz2];omega) (by unfold maxLen;omega) (ul _)
 go_enter Tryz.func7,Tryz.ntmps7
 go_wp2
 have hown1:Rw.Own EPt w1 w.heap.size (.slice (some ⟨w.heap.size,0,none⟩) xs.length xs.length) (List.replicate xs.length ((0:Int),(0:Int),(0:Int))):=by
  unfold Rw.Own
  rw [←mi,List.length_replicate]
  exact hown1
 have hb1:Below w.heap.size w w1:=cU hg1 (ul _) (fun k hk=>by cases hk)
 go_loopw [4] (fun vi wr=>∃ j:Nat,j≤xs.length∧vi=.int .i64 j∧Rw.Own EPt wr w.heap.size (.slice (some ⟨w.heap.size,0,none⟩) xs.length xs.length) (xs.take j ++ List.replicate (xs.length - j) ((0:Int),(0:Int),(0:Int)))∧Below w.heap.size w wr) (fun vi _=>xs.length - (intOf vi).toNat)
 case atStart=>exact ⟨0,by omega,rfl,by simpa using hown1,hb1⟩
 case round=>
 obtain ⟨j,hj,rfl,hown,hbr⟩:=hrel
 have hlen:(xs.take j ++ List.replicate (xs.length - j) ((0:Int),(0:Int),(0:Int))).length=xs.length:=by rw [List.length_append,List.length_take,List.length_replicate];omega
 by_cases hlt:j<xs.length
 ·obtain ⟨g,o,x,rfl,hg,hx,h0,h1,h2⟩:=Hv.out j hlt
  have e0:=(hbr.cell (p:=⟨g,o+j*3,none⟩) hg).trans h0
  have e1:=(hbr.cell (p:=⟨g,o+j*3+1,none⟩) hg).trans h1
  have e2:=(hbr.cell (p:=⟨g,o+j*3+2,none⟩) hg).trans h2
  have hj0:(xs.take j ++ List.replicate (xs.length - j) ((0:Int),(0:Int),(0:Int)))[j]?=some (0,0,0):=by
   rw [List.getElem?_append_right (by rw [List.length_take];omega),List.length_take,show j - min j xs.length=0 by omega,List.getElem?_replicate]
   rw [if_pos (by omega)]
  have hzr:=hbr.size
  go_wp2_with fail
  refine (pX x.1 x.2.1 x.2.2 _).mono ?_;rintro e w2 ⟨rfl,hb2⟩
  have hown2:=hown.below hb2
  obtain ⟨c0,c1,c2,f0,f1,f2⟩:=tR hlen.symm hown2 hj0
  have hst:=uh (ua hlen.symm hown2 hlt x (oc rfl hx.out))
  clear hlen hj0 h0 h1 h2
  go_wp2
  go_roundw
  case rel=>exact ⟨j+1,by omega,by go_num,hst.out.1,((hbr.trans (hb2.mono hzr)).grown hst.out.2 (by have:=hb2.size;omega) (fun q hq=>by cases hq;exact ul _))⟩
  case measure=>simp [intOf] <;> omega
 obtain rfl:j=xs.length:=by omega
 clear hlen
 go_wp2
 go_ret
 exact ⟨_,rfl,by simpa using hown,hbr⟩
end
section
open Go.RowKit
namespace M
theorem dW {a b:Int} {l:List Pt} (h:cQ a b l=true):good a b=true∧1≤l.length∧l.length≤4∧∀ p ∈ l,bR a b p.1 p.2.1 p.2.2=true:=by
 unfold cQ at h
 rw [Bool.and_eq_true,Bool.and_eq_true] at h
 obtain ⟨⟨h1,h2⟩,h3⟩:=h
 unfold ins at h2
 simp only [Bool.and_eq_true,decide_eq_true_eq] at h2
 exact ⟨h1,by omega,by omega,List.all_eq_true.1 h3⟩
end M
namespace M
noncomputable def dJ (a b:Int) (l:List Pt):Bool:=cQ a b l && mOk a b l
noncomputable def gW (a b:Int) (l:List Pt):IvM:=if dJ a b l=true then ivM (eN a b l) else []
theorem iI {a b:Int} {l:List Pt} (h:dJ a b l=false):gW a b l=[]:=by unfold gW;rw [h];rfl
theorem jC {a b:Int} {l:List Pt} (h:dJ a b l=true):gW a b l=ivM (eN a b l):=by unfold gW;rw [h];rfl
theorem lV {a b:Int} {l:List Pt} (h:cQ a b l=false):dJ a b l=false:=by unfold dJ;rw [h];rfl
theorem gG {a b:Int} {l:List Pt} (h:cQ a b l=true):dJ a b l=mOk a b l:=by unfold dJ;rw [h];rfl
theorem th {a b:Int} {l:List Pt} (h:cQ a b l=true):gW a b l=jA a b l:=by
 cases h2:mOk a b l with
 | true=>rw [jC (by rw [gG h,h2]),qm h2]
 | false=>rw [iI (by rw [gG h,h2]),lU h2]
end M
theorem fW (a b:Int) (v:Value) (l:List Pt) (w:World) (hx:fc w v l) (hn:l.length≤4000000) :
  Calls Tryz.prog 14 #[.agg #[.int .i64 a,.int .i64 b],v] w fun e w'=>∃ mv,e=.returned (.tuple #[mv,.bool (M.dJ a b l)])∧dG w' w.heap.size mv (M.gW a b l)∧Below w.heap.size w w':=by
 have PL:=fun W h=>lc a b v l W h hn
 have PM:=fun (hp:M.cQ a b l=true) W h=>iA a b v l W h (M.dW hp).1 (M.dW hp).2.2.1 (M.dW hp).2.2.2
 have hpl:=fun h=>M.dW (a:=a) (b:=b) (l:=l) h
 have e1:=fun h=>M.lV (a:=a) (b:=b) (l:=l) h
 have e2:=fun h=>M.gG (a:=a) (b:=b) (l:=l) h
 have e3:=fun h=>M.jC (a:=a) (b:=b) (l:=l) h
 have e4:=fun h=>M.iI (a:=a) (b:=b) (l:=l) h
 have hsq:=fun h=>M.lZ (a:=a) (b:=b) (l:=l) h
 have hok:=fun h=>M.lY (a:=a) (b:=b) (l:=l) h
 replace hx:=uh hx
 obtain ⟨wc,hw3,C,B⟩:=gu w #[.int .i64 a,.int .i64 b] 28
 have hxc:=uh (hx.out.below B)
 have C_c0:=C.box.c0
 have C_c1:=C.box.c1
 cases hp:M.cQ a b l with
 | false=>
  rw [hp] at PL
  have hfin:=uh (e1 hp)
  have hfv:=uh (e4 hfin.out)
  replace PL:=uh PL
  clear PM e1 e2 e3 e4 hp hsq hok hpl
  go_enter Tryz.func14,Tryz.ntmps14
  go_wp2_with (go_at_call 23;(with_reducible refine (PL.out _ hxc.out).mono ?_);rintro e w4 ⟨rfl,hb4⟩;(replace B:=B.trans (hb4.mono B.size)))
  go_ret2
  exact ⟨_,by rw [hfin.out];rfl,by rw [hfv.out];exact dG.nil _ _,B⟩
 | true=>
 rw [hp] at PL
 obtain ⟨-,hl1,hl4,-⟩:=hpl hp
 replace PM:=PM hp
 have e2:=e2 hp
 replace PL:=uh PL
 cases hm:M.mOk a b l with
 | false=>
  rw [hm] at PM e2
  have hfin:=uh e2
  have hfv:=uh (e4 hfin.out)
  replace PM:=uh PM
  clear e1 e2 e3 e4 hp hsq hok hpl hm
  go_enter Tryz.func14,Tryz.ntmps14
  go_wp2_with first | (go_at_call 23;(with_reducible refine (PL.out _ hxc.out).mono ?_);rintro e w4 ⟨rfl,hb4⟩;(replace B:=B.trans (hb4.mono B.size));(replace C:=C.keep hb4);(replace hxc:=uh (hxc.out.below hb4));(have C_c0:=C.box.c0);(have C_c1:=C.box.c1)) | (go_at_call 24;(with_reducible refine (PM.out _ hxc.out).mono ?_);rintro e w5 ⟨mv,rfl,hM,hb5⟩;(replace B:=B.trans (hb5.mono B.size)))
  go_ret2
  exact ⟨_,by rw [hfin.out];rfl,by rw [hfv.out];exact dG.nil _ _,B⟩
 | true=>
 rw [hm] at PM e2
 have hfin:=uh e2
 have hfv:=uh (e3 hfin.out)
 replace hsq:=hsq hm
 replace hok:=hok hm
 replace PM:=uh PM
 clear e1 e2 e3 e4 hp hpl hm
 obtain ⟨N,hN⟩:∃ N,N=l.length:=⟨_,rfl⟩
 rw [←hN] at hl1 hl4 hsq
 obtain ⟨rows,hrows⟩:∃ r,r=M.eN a b l:=⟨_,rfl⟩
 rw [←hrows] at hsq hok PM hfv
 clear hrows hN
 have hml:=uh hsq.1
 have hmr:=uh hsq.2
 have hok:=uh hok
 have hil:=uh ((M.nt rows).trans hsq.1)
 clear hsq
 go_enter Tryz.func14,Tryz.ntmps14
 go_wp2_with first | (go_at_call 23;(with_reducible refine (PL.out _ hxc.out).mono ?_);rintro e w4 ⟨rfl,hb4⟩;(replace B:=B.trans (hb4.mono B.size));(replace C:=C.keep hb4);(replace hxc:=uh (hxc.out.below hb4));(have C_c0:=C.box.c0);(have C_c1:=C.box.c1)) | (go_at_call 24;(with_reducible refine (PM.out _ hxc.out).mono ?_);rintro e w5 ⟨mv,rfl,⟨vs,hM⟩,hb5⟩;(have hbs:=B.size);(replace B:=B.trans (hb5.mono B.size));(clear C hxc C_c0 C_c1);obtain ⟨gm,capm,rfl,hcm,hcm2,hgm⟩:=hM.form (fun h=>by have:=hml.out;rw [h] at this;simp only [List.length_nil] at this;omega);(rw [hml.out] at hM hcm ⊢);(replace hM:=uh hM))
 have hB5:=B.size
 go_loopw [8,30] (fun vo vi wr=>∃ (i:Nat) (u:Value),i≤N∧vi=.int .i64 (i:Int)∧u=vo∧Hid (dG wr w5.heap.size u ((M.ivM rows).take i))∧Below w5.heap.size w5 wr) (fun _ vi _=>N - (intOf vi).toNat)
 case atStart=>exact ⟨0,_,Nat.zero_le _,rfl,rfl,uh (dG.nil _ _),uk _ _⟩
 case round=>
 obtain ⟨i,vo,hi,rfl,rfl,hrow,Bi⟩:=hrel
 have hmi:=uh (hM.out.below Bi)
 by_cases hlt:i<N
 ·obtain ⟨r,hr⟩:∃ r,rows[i]?=some r:=⟨_,List.getElem?_eq_getElem (by have:=hml.out;omega)⟩
  have hrl:r.length=N:=hmr.out r (List.mem_of_getElem? hr)
  obtain ⟨gi,capi,hvi,hci,hgi⟩:=hmi.out.rowIs hr (fun h=>by rw [h] at hrl;simp only [List.length_nil] at hrl;omega)
  have kri:=hmi.out.oI hvi
  have FR:=uh (hmi.out.rowFrom hvi hr)
  rw [hrl] at kri
  have hro:=uh (hok.out r (List.mem_of_getElem? hr))
  have hcell:=M.td hr
  obtain ⟨rN,hrN⟩:∃ x,x=r.map fun q=>M.ivc (some q):=⟨_,rfl⟩
  rw [←hrN] at hcell
  have hnx:=uh (M.eP hcell)
  have hrNl:rN.length=N:=by rw [hrN,List.length_map];exact hrl
  have hrN:=uh hrN
  have hrNl:=uh hrNl
  have hrl:=uh hrl
  clear hcell hvi hci hr
  generalize hwo:wr=wo at *
  clear hwo
  go_wp2
  go_loopw [11,36] (fun vr vk wq=>∃ (k:Nat) (u:Value),k≤N∧vk=.int .i64 (k:Int)∧u=vr∧Hid (Rw.Own EN wq wo.heap.size u (rN.take k))∧Below wo.heap.size wo wq) (fun _ vk _=>N - (intOf vk).toNat)
  case atStart=>exact ⟨0,_,Nat.zero_le _,rfl,rfl,uh (Rw.Own.nil EN _ _),uk _ _⟩
  case round=>
  obtain ⟨k,vr,hk,rfl,rfl,hown,Bq⟩:=hrel
  by_cases hlt2:k<N
  ·obtain ⟨q,hq⟩:∃ q,r[k]?=some q:=⟨_,List.getElem?_eq_getElem (by have:=hrl.out;omega)⟩
   obtain ⟨d0,d1⟩:=(FR.out.below Bq).at2 hq
   have hqN:rN[k]?=some (M.ivc (some q)):=by rw [hrN.out,List.getElem?_map,hq];rfl
   have hqs:=hro.out q (List.mem_of_getElem? hq)
   have hnk:=uh (M.eP hqN)
   have PI:=fun W=>mg q.1 q.2 true W
   rw [hqs] at PI
   have hlen:(rN.take k).length≤4:=by rw [List.length_take];omega
   have hlen:=uh hlen
   clear hq hqN hqs
   obtain ⟨p1,p2,p3,p4⟩:True∧True∧True∧True:=⟨trivial,trivial,trivial,trivial⟩
   replace hnk:Hid (rN.take (k+1)=rN.take k ++ [(M.pick (true && true) (M.pn q.1),M.pick (true && true) (M.pd q.1),M.pick (true && true) (M.pn q.2),M.pick (true && true) (M.pd q.2))]):=hnk
   generalize M.pick (true && true) (M.pn q.1)=i1 at *
   generalize M.pick (true && true) (M.pd q.1)=i2 at *
   generalize M.pick (true && true) (M.pn q.2)=i3 at *
   generalize M.pick (true && true) (M.pd q.2)=i4 at *
   obtain ⟨q1,q2⟩:=q
   simp only [] at d0 d1 PI
   replace PI:=uh PI
   have Bs:=(uk wr.heap.size wr).alloc (ul _) (.cells #[.int .i64 q1,.int .i64 q2] 61)
   have hzq:=Bq.size
   go_wp2_with first | (go_at_call 25;(with_reducible refine (PI.out _).mono ?_);rintro e w7 ⟨rfl,hb7⟩;(have V:=aH.new w7 #[.int .i64 i1,.int .i64 i2,.int .i64 i3,.int .i64 i4] 42);(have ⟨v0,v1,v2,v3,_,_,_,_,_⟩:=V.aR);(replace Bs:=(Bs.trans (hb7.mono Bs.size)).alloc (Nat.le_trans Bs.size hb7.size) (.cells #[.int .i64 i1,.int .i64 i2,.int .i64 i3,.int .i64 i4] 42))) | (at_builtin;refine Rw.push nd (W:=wo) wo.heap.size [(i1,i2,i3,i4)] _ _ (some ⟨w7.heap.size+1,0,none⟩) 1 1 rfl rfl (.tmp 45) (.tmp 47) rfl rfl rfl (Rw.From.lit EN _ (i1,i2,i3,i4) (w7.heap.size+1) (ui _ _)) (Rw.Own.alloc (hown.out.below Bs) _) ((Bq.trans (Bs.mono Bq.size)).alloc (Nat.le_trans hzq Bs.size) _) (by rw [ui];exact Nat.le_succ_of_le (Nat.le_trans hzq Bs.size)) (by have:=hlen.out;simp only [List.length_cons,List.length_nil];omega) ?_;intro v8 w8 hown8 hb8)
   go_roundw
   case rel=>exact ⟨k+1,_,by omega,by go_num,rfl,by rw [hnk.out];exact uh hown8,hb8⟩
   case measure=>simp [intOf] <;> omega
  obtain rfl:N=k:=by omega
  have hown2:=hown.out
  rw [List.take_of_length_le (by rw [hrNl.out];omega)] at hown2
  obtain ⟨g4,c4,rfl⟩:∃ g4 c4,vr=Value.slice (some ⟨g4,0,none⟩) N c4:=by
   rcases hown2.forms with ⟨-,h4⟩ | ⟨g4,c4,h4,-⟩
   ·have:=hrNl.out;rw [h4] at this;simp only [List.length_nil] at this;omega
   rw [hrNl.out] at h4;exact ⟨g4,c4,h4⟩
  obtain ⟨vs2,hvs2⟩:=hrow.out
  have hfr:=hvs2.fresh hown2 (ul _)
  have hvq:=hvs2.below Bq
  have hrw:=hown2.down Bi.size
  have Bw:=Bi.trans (Bq.mono Bi.size)
  have hlen:((M.ivM rows).take i).length≤1000000000:=by rw [List.length_take];omega
  clear hown2 hvs2 hown
  go_wp2_with (at_builtin;refine jo (W:=w5) w5.heap.size _ _ vs2 _ _ wr.heap.size rfl rfl (.tmp 50) (.tmp 52) rfl rfl rfl hvq hrw hfr Bw Bw.size hlen ?_;intro v9 w9 hown9 hb9)
  go_roundw
  case rel=>exact ⟨i+1,_,by omega,by go_num,rfl,uh ⟨_,by rw [hnx.out];exact hown9⟩,hb9⟩
  case measure=>simp [intOf] <;> omega
 obtain rfl:N=i:=by omega
 have hM3:dG wr w5.heap.size vo (M.ivM rows):=by
  have h:=hrow.out
  rw [List.take_of_length_le (by rw [hil.out];omega)] at h
  exact h
 have hM3:=uh (hM3.base hB5)
 clear hrow hmi
 go_wp2
 go_ret2
 exact ⟨_,by rw [hfin.out];rfl,by rw [hfv.out];exact hM3.out,B.trans (Bi.mono B.size)⟩
end
section
open Go.ChangeShapes Go.WideShapes Go.ChangeAt Go.RowKit Go.Joins Go.Deep
theorem own:ownKnob Tryz.prog.godebug=none:=by kernel_rfl
theorem laidOut:laidOutB Tryz.prog=true:=by kernel_rfl
theorem M.jZ {a:Int} (h:(Lit.int .i64 a).wf=true):M.I64 a:=by
 have:=bounds_i64 h
 exact this
section
variable {H:Type} {enc:TypeId × Value→H} {P:Program} {w:World} {base:Nat} {spare:Nat→Bool} {held:Bool}
theorem open_2i {r:Reach} {b0:Nat} {t ti:TypeId} {f0 f1:Field} {v:Value} {d:DataW H} {p:List MemPlace} (hs:P.underlying t=some (.struct #[f0,f1])) (h0:f0.type=ti) (h1:f1.type=ti) (hi:P.underlying ti=some (.int .i64)) (hone:oneCellFields P #[f0,f1]=true) (hC:P.cellsOf t=2)
  (hv:Value.okWide P w r b0 t v) (h:DataW.Trod enc P w base spare held t v d p) :
  ∃ a b,v=.agg #[.int .i64 a,.int .i64 b]∧M.I64 a∧M.I64 b:=by
 obtain ⟨v0,v1,y0,y1,n,rfl,-,-,g0,g1⟩:=open_agg2 hs hone hC hv h
 rw [h0] at g0
 rw [h1] at g1
 obtain ⟨a,ea,-,wa⟩:=DataW.trod_int hi g0
 obtain ⟨b,eb,-,wb⟩:=DataW.trod_int hi g1
 simp only [List.cons.injEq,and_true] at ea eb
 subst ea eb
 exact ⟨a,b,rfl,M.jZ wa,M.jZ wb⟩
theorem fb (hl:laidOutB P=true):∀ (ts:List TypeId) (hts:∀ t ∈ ts,P.readableRec t=true∧t<P.types.size) {W W':World} {vs:List Value} {ds:List (DataW H)} {ps:List MemPlace}
  (_:DataW.TrodAll enc P W 0 (fun _=>true) true ts vs ds ps) (_:Below W.heap.size W W') (_:∀ x ∈ ps,x.block<W.heap.size),DataW.TrodAll enc P W' 0 (fun b=>decide (b<W.heap.size)) true ts vs ds ps
 | [],_,_,_,_,_,_,h,_,_=>by
  obtain ⟨rfl,rfl,rfl⟩:=trodAll_nil h
  exact trodAll_mk0
 | t :: ts,hts,_,_,_,_,_,h,hb,hlt=>by
  obtain ⟨v,vs',d,ds',p,q,rfl,rfl,rfl,h1,h2⟩:=trodAll_cons h
  refine ⟨p,q,Below.trod hl (hts t List.mem_cons_self).1 (hts t List.mem_cons_self).2 h1 hb fun x hx=>hlt x (List.mem_append_left _ hx),?_,rfl⟩
  exact fb hl ts (fun t' ht'=>hts t' (List.mem_cons_of_mem _ ht')) h2 hb fun x hx=>hlt x (List.mem_append_right _ hx)
theorem law_post {f:Func} {s:ChangeSpec} {W W':World} {args:Array Value} {ds:List (DataW H)} {before:List MemPlace} {tb:TypeId}
  (hl:laidOutB P=true) (hts:∀ t ∈ f.params.toList,P.readableRec t=true∧t<P.types.size)
  (hvars:s.vars=[]) (hf:s.fn H ds={ results:=[.lit (.bool true)],args:=ds }) (hrt:f.resultTypes=#[tb]) (hbool:P.underlying tb=some .bool)
  (hW:DataW.Whole enc P f.params.toList s.vars false W args.toList ds [] before) (hb:Below W.heap.size W W') :
  s.post enc P f false true false false W args (.bool true) W':=by
 have hlt:∀ p ∈ before,p.block<W.heap.size:=fun p hp=>hW.lt p hp
 obtain ⟨p,q,hA,hV,hpq,hz,hn⟩:=id hW
 rw [hvars] at hV
 obtain ⟨_,rfl⟩:=trodVars_none hV
 have hbp:before=p:=by simpa using hpq
 subst hbp
 have e1:s.fn H (ds ++ [])={ results:=[.lit (.bool true)],args:=ds }:=by rw [List.append_nil];exact hf
 refine ⟨ds,[],before,[],before,[],hW,?_,?_,?_,World.keptBut_mono (fun x hx=>⟨hx,Or.inr (Or.inl hx)⟩) (hb.frame (· ∈ before)),fun h=>by cases h⟩
 ·rw [e1,hrt]
  exact trodAll_mk1 (shut_bool hbool true)
 ·rw [e1]
  exact fb hl _ hts hA hb hlt
 rw [e1,hvars]
 exact rfl
end
def mP (w:World) (v:Value) (xs:List Int):Prop:=
 ∃ (A:Option Addr) (cap:Nat),v=.slice A xs.length cap∧(xs.length:Int)≤9223372036854775807∧
  ∀ k,k<xs.length→∃ g o x,A=some ⟨g,o,none⟩∧g<w.heap.size∧Hid (xs[k]?=some x)∧w.cell? ⟨g,o+k,none⟩=some (.int .i64 x)
theorem mP.keep {w w':World} {v:Value} {xs:List Int} (h:mP w v xs) (hb:Below w.heap.size w w'):mP w' v xs:=by
 obtain ⟨A,cap,rfl,hm,hv⟩:=h
 refine ⟨A,cap,rfl,hm,fun k hk=>?_⟩
 obtain ⟨g,o,x,hA,hg,hx,h0⟩:=hv k hk
 exact ⟨g,o,x,hA,Nat.lt_of_lt_of_le hg hb.size,hx,aE hb h0⟩
theorem open_points {H:Type} {enc:TypeId × Value→H} {P:Program} {w:World} {base b0:Nat} {held:Bool} {r:Reach} {t te ti:TypeId} {f0 f1 f2:Field} {v:Value} {d:DataW H} {ps:List MemPlace}
  (ht:P.underlying t=some (.slice te)) (he:P.underlying te=some (.struct #[f0,f1,f2])) (t0:f0.type=ti) (t1:f1.type=ti) (t2:f2.type=ti) (hi:P.underlying ti=some (.int .i64)) (ce:P.cellsOf te=3) (o0:f0.offset=0) (o1:f1.offset=1) (o2:f2.offset=2)
  (ci:P.cellsOf ti=1) (hv:Value.okWide P w r b0 t v) (h:DataW.Trod enc P w base (fun _=>true) held t v d ps) :
  ∃ xs:List Pt,cn w v xs:=by
 obtain ⟨a1,len,cap,rfl⟩:=okWide_slice ht hv
 obtain ⟨fuel,hf⟩:=h
 rcases open_slice ht hf with ⟨hcs,hx⟩ | ⟨a,len',cap',m,n,D,Pl,hcs,hb,hl,hm,hmm,hx,hall⟩
 ·simp [Value.cells] at hcs
  obtain ⟨rfl,rfl,rfl⟩:=hcs
  exact ⟨[],none,0,rfl,by simp,fun k hk=>absurd hk (by simp)⟩
 simp [Value.cells] at hcs
 obtain ⟨rfl,rfl,rfl⟩:=hcs
 simp only [if_true] at hmm
 have each:∀ i,i<len→∃ q:Pt,w.cell? (a.add (i*3))=some (.int .i64 q.1)∧w.cell? (a.add (i*3+1))=some (.int .i64 q.2.1)∧w.cell? (a.add (i*3+2))=some (.int .i64 q.2.2):=by
  intro i hi2
  obtain ⟨cs',h1,h2⟩:=hall i (by omega)
  rw [ce] at h1
  obtain ⟨_,hlen,hcell⟩:=World.cells?_some h1
  obtain ⟨xs,k,hk,hxy,_,hxl,hfd⟩:=DataW.trod_struct he h2
  match xs,hxl,cs',hlen with
  | [y0,y1,y2],_,[v0,v1,v2],_=>
  have g0:=hfd 0 f0 rfl
  have g1:=hfd 1 f1 rfl
  have g2:=hfd 2 f2 rfl
  simp [o0,o1,o2,t0,t1,t2,ci] at g0 g1 g2
  have e0:=hcell 0 (by omega)
  have e1:=hcell 1 (by omega)
  have e2:=hcell 2 (by omega)
  rw [add_add] at e0 e1 e2
  obtain ⟨x,ex,-,-⟩:=DataW.trod_int hi g0
  obtain ⟨y,ey,-,-⟩:=DataW.trod_int hi g1
  obtain ⟨z,ez,-,-⟩:=DataW.trod_int hi g2
  simp only [List.cons.injEq,and_true] at ex ey ez
  subst ex ey ez
  refine ⟨(intOf (.int .i64 x),intOf (.int .i64 y),intOf (.int .i64 z)),?_,?_,?_⟩
  ·simpa [intOf] using e0
  ·simpa [intOf] using e1
  simpa [intOf] using e2
 obtain ⟨q,hq⟩:=choose_lt each
 refine ⟨(List.range len).map q,some a,cap,by simp,by simp;unfold maxLen at hm;omega,fun k hk=>?_⟩
 have hk':k<len:=by simpa using hk
 obtain ⟨h1,h2,h3⟩:=hq k hk'
 obtain ⟨ab,ao,spot⟩:=a
 have hspot:spot=none:=by simpa [Addr.add] using World.cell?_spot (hq 0 (by omega)).1
 subst hspot
 rw [Addr.add_lit] at h1 h2 h3
 exact ⟨ab,ao,q k,rfl,World.block_lt_of_cell? w _ h1,uh (by rw [List.getElem?_map,List.getElem?_range hk'];rfl),h1,by rw [Nat.add_assoc];exact h2,by rw [Nat.add_assoc];exact h3⟩
end
section
open Go.RowKit
def bs (l:List UInt8):ByteArray:=⟨l.toArray⟩
theorem fK (l:List UInt8):(bs l).size=l.length:=by simp [bs,ByteArray.size]
theorem gN (l m:List UInt8):bs l ++ bs m=bs (l ++ m):=by unfold bs;rw [ByteArray.mk_append_mk]
theorem nV (W:World) (b:Nat) (x:Int) (h:W.cell? ⟨b,0,none⟩=some (.int .u8 x)) :
  (convert 87 9 (.slice (some ⟨b,0,none⟩) 1 1)).run Tryz.prog W=.ok (.string (bs [UInt8.ofNat x.toNat])) W:=by
 rw [run_convert_bytes_arg (P:=Tryz.prog) W 87 5 Tryz.underlying87 Tryz.underlying5 b 0 1 1 [x] rfl (fun i hi=>by
  obtain rfl:i=0:=by omega
  exact h) 9 Tryz.underlying9]
 rfl
theorem fM {n:Nat} (h:n<10):Lib.decDigits n=[UInt8.ofNat (48+n)]:=Lib.decDigits_one h
theorem nW {n:Nat} (h:¬ n<10):Lib.decDigits n=Lib.decDigits (n / 10) ++ [UInt8.ofNat (48+n % 10)]:=by rw [Lib.decDigits,dif_neg h]
def Tab (B:Nat) (w:World):Prop:=Lib.TabBelow Tryz.prog B w "internal/strconv.uint64pow10" .u64 Lib.pow10Tab
theorem Tab.at {B:Nat} {w w':World} (h:Tab B w) (hb:Below B w w'):Tab B w':=fun W hW=>h W (hb.trans hW)
theorem f9 {n:Nat} (h:n<10000000000):(Lib.decDigits n).length≤10:=by
 have go:∀ (k m:Nat),m<10 ^ (k+1)→(Lib.decDigits m).length≤k+1:=by
  intro k
  induction k with
  | zero=>intro m hm;rw [fM (by omega)];simp
  | succ k ih=>
  intro m hm
  by_cases h10:m<10
  ·rw [fM h10];simp
  rw [nW h10,List.length_append]
  have:=ih (m / 10) (by rw [Nat.pow_succ] at hm;omega)
  simp only [List.length_singleton]
  omega
 exact go 9 n h
theorem iz (k:Nat):∀ (n:Nat) (w:World),n≤k→n<10000000000→
  Calls Tryz.prog 34 #[.int .i64 n] w fun e w'=>e=.returned (.string (bs (Lib.decDigits n)))∧Below w.heap.size w w':=by
 induction k with
 | zero=>
  intro n w hk hn
  obtain rfl:n=0:=by omega
  have hc:=nV (w.alloc (.cells #[.int .u8 48] 5)) w.heap.size 48 (fy _ _ _ _)
  rw [show Lib.decDigits 0=[UInt8.ofNat (48:Int).toNat] from fM (by omega)]
  generalize bs [UInt8.ofNat (48:Int).toNat]=c at *
  go_enter Tryz.func34,Tryz.ntmps34
  go_wp2_with fail
  go_ret
  exact ⟨rfl,(by repeat (first | exact uk _ _ | refine aP ?_ _ | refine aS ?_ (by assumption) | refine Below.drew ?_ | refine uj ?_ (by first | exact ul _ | exact Nat.le_add_right _ _ | (simp <;> omega)) _ | refine aK ?_ _))⟩
 | succ k ih=>
 intro n w hk hn
 by_cases h10:n<10
 ·have hc:=nV (w.alloc (.cells #[.int .u8 (48+(n:Int))] 5)) w.heap.size (48+(n:Int)) (fy _ _ _ _)
  rw [show (48+(n:Int)).toNat=48+n by omega] at hc
  rw [fM h10]
  generalize bs [UInt8.ofNat (48+n)]=c at *
  go_enter Tryz.func34,Tryz.ntmps34
  go_wp2_with fail
  go_ret
  exact ⟨rfl,(by repeat (first | exact uk _ _ | refine aP ?_ _ | refine aS ?_ (by assumption) | refine Below.drew ?_ | refine uj ?_ (by first | exact ul _ | exact Nat.le_add_right _ _ | (simp <;> omega)) _ | refine aK ?_ _))⟩
 have hc:=fun W b=>nV W b (48+((n % 10:Nat):Int))
 rw [show (48+((n % 10:Nat):Int)).toNat=48+n % 10 by omega] at hc
 have hcA:=fun (W:World)=>nV (W.alloc (.cells #[.int .u8 (48+((n % 10:Nat):Int))] 5)) W.heap.size (48+((n % 10:Nat):Int)) (fy _ _ _ _)
 rw [show (48+((n % 10:Nat):Int)).toNat=48+n % 10 by omega] at hcA
 have hI:∀ (x:Int) (w:World),x=((n / 10:Nat):Int)→Calls Tryz.prog 34 #[.int .i64 x] w fun e w'=>e=.returned (.string (bs (Lib.decDigits (n / 10))))∧Below w.heap.size w w':=fun x w hx=>by subst hx;exact ih (n / 10) w (by omega) (by omega)
 have hI:=uh hI
 have hl:=f9 (n:=n / 10) (by omega)
 have hadd:∀ W,(Op.stringOp .add (bs (Lib.decDigits (n / 10))) (bs [UInt8.ofNat (48+n % 10)])).run Tryz.prog W=.ok (.string (bs (Lib.decDigits n))) W:=fun W=>by
  rw [run_string_add_sum _ _ _ (by rw [fK,fK];simp;omega),gN,←nW h10]
 have hm1:((n:Int) % 10)=((n % 10:Nat):Int):=by omega
 have hm2:((n:Int) / 10)=((n / 10:Nat):Int):=by omega
 generalize hq:n / 10=q at *
 generalize hr:n % 10=r at *
 generalize bs (Lib.decDigits q)=s at *
 generalize bs (Lib.decDigits n)=t at *
 generalize bs [UInt8.ofNat (48+r)]=c at *
 have hr10:r<10:=by omega
 have ht:(n:Int).tmod 10=(r:Int):=by rw [Int.tmod_eq_emod_of_nonneg (by omega)];exact hm1
 have hw1:IntKind.i64.wrap (q:Int)=q:=IntWalk.i64_in _ (by omega)
 have hw2:IntKind.i64.wrap (48+(r:Int))=48+r:=IntWalk.i64_in _ (by omega)
 have hw3:IntKind.u8.wrap (48+(r:Int))=48+r:=by rw [IntKind.wrap_u8];omega
 go_enter Tryz.func34,Tryz.ntmps34
 go_wp2_with fail
 go_region_with (first | (go_at_call 34;refine (hI.out _ _ (by first | rfl | exact hw1 | omega)).mono ?_;rintro e w' ⟨rfl,hb⟩;have hz_:=hb.size;(try simp only [ui,aM] at hz_);(first | have hk_:=hc _ _ (aE hb (fy _ _ _ 0)) | skip)))
 all_goals
  go_wp2_with fail
  go_ret
  exact ⟨rfl,(by repeat (first | exact uk _ _ | refine aP ?_ _ | refine aS ?_ (by assumption) | refine Below.drew ?_ | refine uj ?_ (by first | exact ul _ | exact Nat.le_add_right _ _ | (simp <;> omega)) _ | refine aK ?_ _))⟩
theorem dF {n:Int} (h1:-10000000000<n) (h2:n<10000000000):(Lib.itoa n).length≤11:=by
 unfold Lib.itoa
 split
 ·have:=f9 (n:=n.natAbs) (by omega)
  simp only [List.length_cons]
  omega
 have:=f9 (n:=n.toNat) (by omega)
 omega
theorem qg (n:Int) (w:World) (h1:-10000000000<n) (h2:n<10000000000) :
  Calls Tryz.prog 33 #[.int .i64 n] w fun e w'=>e=.returned (.string (bs (Lib.itoa n)))∧Below w.heap.size w w':=by
 by_cases hn:n<0
 ·obtain ⟨q,rfl⟩:∃ q:Nat,n=-(q:Int):=⟨n.natAbs,by omega⟩
  have hl:=f9 (n:=q) (by omega)
  have hI:∀ (x:Int) (w:World),x=(q:Int)→Calls Tryz.prog 34 #[.int .i64 x] w fun e w'=>e=.returned (.string (bs (Lib.decDigits q)))∧Below w.heap.size w w':=fun x w hx=>by subst hx;exact iz q q w (ul _) (by omega)
  have hI:=uh hI
  have hadd:∀ W,(Op.stringOp .add (ByteArray.mk #[45]) (bs (Lib.decDigits q))).run Tryz.prog W=.ok (.string (bs (Lib.itoa (-(q:Int))))) W:=fun W=>by
   rw [Lib.itoa_neg q (by omega)]
   have e:ByteArray.mk #[45]=bs [45]:=rfl
   rw [e,run_string_add_sum _ _ _ (by rw [fK,fK];simp;omega),gN]
   rfl
  generalize bs (Lib.decDigits q)=s at *
  generalize bs (Lib.itoa (-(q:Int)))=t at *
  go_enter Tryz.func33,Tryz.ntmps33
  go_wp2_with (go_at_call 34;refine (hI.out _ _ (by omega)).mono ?_;rintro e w' ⟨rfl,hb⟩)
  go_ret
  exact ⟨rfl,(by repeat (first | exact uk _ _ | refine aP ?_ _ | refine aS ?_ (by assumption) | refine Below.drew ?_ | refine uj ?_ (by first | exact ul _ | exact Nat.le_add_right _ _ | (simp <;> omega)) _ | refine aK ?_ _))⟩
 obtain ⟨q,rfl⟩:∃ q:Nat,n=(q:Int):=⟨n.toNat,by omega⟩
 have hI:=uh fun w=>iz q q w (ul _) (by omega)
 rw [Lib.itoa_nonneg q]
 generalize bs (Lib.decDigits q)=s at *
 go_enter Tryz.func33,Tryz.ntmps33
 go_wp2_with (go_at_call 34;refine (hI.out _).mono ?_;rintro e w' ⟨rfl,hb⟩)
 go_ret
 exact ⟨rfl,(by repeat (first | exact uk _ _ | refine aP ?_ _ | refine aS ?_ (by assumption) | refine Below.drew ?_ | refine uj ?_ (by first | exact ul _ | exact Nat.le_add_right _ _ | (simp <;> omega)) _ | refine aK ?_ _))⟩
namespace M
noncomputable def frB (n d:Int):List UInt8:=if d=1 then Lib.itoa n else Lib.itoa n ++ [47] ++ Lib.itoa d
noncomputable def ivB (a b c d:Int):List UInt8:=[91] ++ frB a b ++ [44] ++ frB c d ++ [93]
theorem sx {n:Int}:frB n 1=Lib.itoa n:=if_pos rfl
theorem sy {n d:Int} (h:d≠1):frB n d=Lib.itoa n ++ [47] ++ Lib.itoa d:=if_neg h
theorem fQ {n d:Int} (h1:-10000000000<n) (h2:n<10000000000) (h3:-10000000000<d) (h4:d<10000000000):(frB n d).length≤23:=by
 have l1:=dF h1 h2
 have l2:=dF h3 h4
 unfold frB
 split
 ·omega
 simp only [List.length_append,List.length_singleton];omega
theorem ry {a b c d:Int} (h1:-10000000000<a) (h2:a<10000000000) (h3:-10000000000<b) (h4:b<10000000000) (h5:-10000000000<c) (h6:c<10000000000) (h7:-10000000000<d) (h8:d<10000000000):(ivB a b c d).length≤49:=by
 have l1:=fQ h1 h2 h3 h4
 have l2:=fQ h5 h6 h7 h8
 unfold ivB
 simp only [List.length_append,List.length_singleton];omega
end M
theorem da {l m:List UInt8} (h:l.length+m.length≤1000000) (W:World):(Op.stringOp .add (bs l) (bs m)).run Tryz.prog W=.ok (.string (bs (l ++ m))) W:=by
 rw [run_string_add_sum _ _ _ (by rw [fK,fK];omega),gN]
theorem ns (n:Int) (B:Nat) (w:World) (ht:Tab B w) (h0:-10000000000<n) (h1:n<10000000000) :
  Calls Tryz.prog 44 #[.int .i64 n] w fun e w'=>e=.returned (.string (bs (Lib.itoa n)))∧Below w.heap.size w w':=
 (Tryz.strconv_Itoa n (by omega) (by omega) w (Lib.TabBelow.here ht)).mono fun e w' ⟨he,k,os,hw⟩=>⟨he,by rw [hw];exact Lib.below_grow _ _ (ul _) k os⟩
theorem qi (d:Int) (w:World) (h0:0≤d) (h1:d<10000000000):Calls Tryz.prog 34 #[.int .i64 d] w fun e w'=>e=.returned (.string (bs (Lib.itoa d)))∧Below w.heap.size w w':=by
 obtain ⟨q,rfl⟩:∃ q:Nat,d=(q:Int):=⟨d.toNat,by omega⟩
 rw [Lib.itoa_nonneg q]
 exact iz q q w (ul _) (by omega)
theorem lJ (n d:Int) (w:World) (h1:-10000000000<n) (h2:n<10000000000) (h3:0≤d) (h4:d<10000000000) :
  Calls Tryz.prog 22 #[.agg #[.int .i64 n,.int .i64 d]] w fun e w'=>e=.returned (.string (bs (M.frB n d)))∧Below w.heap.size w w':=by
 have l1:=dF h1 h2
 have l2:=dF (n:=d) (by omega) h4
 obtain ⟨wc,hw3,C,B⟩:=gu w #[.int .i64 n,.int .i64 d] 40
 have c0:=C.box.c0
 have c1:=C.box.c1
 have HI:=fun W=>qg n W h1 h2
 have HN:=fun W=>qi d W h3 h4
 by_cases hd:d=1
 ·subst hd
  rw [M.sx]
  generalize bs (Lib.itoa n)=s1 at *
  replace HI:=uh HI
  clear HN l1 l2
  go_enter Tryz.func22,Tryz.ntmps22
  go_wp2_with (go_at_call 33;(refine (HI.out _).mono ?_);rintro e w4 ⟨rfl,hb4⟩;(replace B:=B.trans (hb4.mono B.size)))
  go_ret
  exact ⟨rfl,B⟩
 rw [M.sy hd]
 have A1:∀ W,(Op.stringOp .add (bs (Lib.itoa n)) (ByteArray.mk #[47])).run Tryz.prog W=.ok (.string (bs (Lib.itoa n ++ [47]))) W:=fun W=>da (m:=[47]) (by simp;omega) W
 have A2:∀ W,(Op.stringOp .add (bs (Lib.itoa n ++ [47])) (bs (Lib.itoa d))).run Tryz.prog W=.ok (.string (bs (Lib.itoa n ++ [47] ++ Lib.itoa d))) W:=fun W=>da (by simp;omega) W
 generalize bs (Lib.itoa n ++ [47] ++ Lib.itoa d)=s4 at *
 generalize bs (Lib.itoa n ++ [47])=s2 at *
 generalize bs (Lib.itoa n)=s1 at *
 generalize bs (Lib.itoa d)=s3 at *
 replace HI:=uh HI
 replace HN:=uh HN
 clear l1 l2
 have hd1:(d == 1)=false:=beq_eq_false_iff_ne.2 hd
 go_enter Tryz.func22,Tryz.ntmps22
 go_upto_region 3 with fail
 refine Rg.bF 9 [.is (.pointer (some ⟨w.heap.size,0,none⟩)),.is (.int .i64 n),.is (.string s1),.is (.string s2),.is (.pointer (some ⟨w.heap.size,1,none⟩)),.is (.int .i64 d),.is (.string s3),.is (.string s4),.is (.string s4)] (by kernel_rfl) (by kernel_rfl) (by kernel_rfl) ⟨?_,?_,?_,?_,?_,?_,?_,?_,?_,trivial⟩ ?_
 ·intro _ ac_ w_ hB hr
  have e1:ac_.tmps[1]?=some (.pointer (some ⟨w.heap.size,0,none⟩)):=hr 1 (by decide)
  exact Rg.aG rfl (by go_simp)
 ·intro _ ac_ w_ hB hr
  have e9:=Rg.ev1 (hr 9 (by decide))
  have k0:=aE hB c0
  exact Rg.aG rfl (by go_simp)
 ·intro _ ac_ w_ hB hr
  have e10:=Rg.ev1 (hr 10 (by decide))
  have ef:=Rg.ef ac_
  exact Rg.bK rfl (by go_simp) (HI.out _)
 ·intro _ ac_ w_ hB hr
  have e11:=Rg.ev1 (hr 11 (by decide))
  have ec:=Rg.ec ac_
  exact Rg.aG rfl (by go_simp)
 ·intro _ ac_ w_ hB hr
  have e1:ac_.tmps[1]?=some (.pointer (some ⟨w.heap.size,0,none⟩)):=hr 1 (by decide)
  exact Rg.aG rfl (by go_simp)
 ·intro _ ac_ w_ hB hr
  have e13:=Rg.ev1 (hr 13 (by decide))
  have k1:=aE hB c1
  exact Rg.aG rfl (by go_simp)
 ·intro _ ac_ w_ hB hr
  have e14:=Rg.ev1 (hr 14 (by decide))
  have ef:=Rg.ef ac_
  exact Rg.bK rfl (by go_simp) (HN.out _)
 ·intro _ ac_ w_ hB hr
  have e12:=Rg.ev1 (hr 12 (by decide))
  have e15:=Rg.ev1 (hr 15 (by decide))
  exact Rg.aG rfl (by go_simp)
 ·intro _ ac_ w_ hB hr
  have e16:=Rg.ev1 (hr 16 (by decide))
  exact Rg.aG rfl (by go_simp)
 intro vals wz hB hv hne
 have v_8:vals 8=.string s4:=hv 8 (by decide)
 simp only [Rg.am,Rg.fill,Act.put,Nat.reduceAdd]
 clear hv
 simp only [v_8]
 clear v_8
 unfold Rg.aV
 go_wp2
 go_ret
 exact ⟨rfl,B.trans (hB.mono B.size)⟩
theorem qe (a b c d:Int) (w:World) (h1:-10000000000<a) (h2:a<10000000000) (h3:0≤b) (h4:b<10000000000) (h5:-10000000000<c) (h6:c<10000000000) (h7:0≤d) (h8:d<10000000000) :
  Calls Tryz.prog 12 #[.agg #[.int .i64 a,.int .i64 b,.int .i64 c,.int .i64 d]] w fun e w'=>e=.returned (.string (bs (M.ivB a b c d)))∧Below w.heap.size w w':=by
 have l1:=M.fQ h1 h2 (show -10000000000<b by omega) h4
 have l2:=M.fQ h5 h6 (show -10000000000<d by omega) h8
 obtain ⟨wc,hw3,C,B⟩:=gu w #[.int .i64 a,.int .i64 b,.int .i64 c,.int .i64 d] 42
 have ⟨c0,c1,c2,c3,_,_,_,_,_⟩:=C.aR
 have P1:=fun W=>lJ a b W h1 h2 h3 h4
 have P2:=fun W=>lJ c d W h5 h6 h7 h8
 unfold M.ivB
 have A1:∀ W,(Op.stringOp .add (ByteArray.mk #[91]) (bs (M.frB a b))).run Tryz.prog W=.ok (.string (bs ([91] ++ M.frB a b))) W:=fun W=>da (l:=[91]) (by simp;omega) W
 have A2:∀ W,(Op.stringOp .add (bs ([91] ++ M.frB a b)) (ByteArray.mk #[44])).run Tryz.prog W=.ok (.string (bs ([91] ++ M.frB a b ++ [44]))) W:=fun W=>da (m:=[44]) (by simp;omega) W
 have A3:∀ W,(Op.stringOp .add (bs ([91] ++ M.frB a b ++ [44])) (bs (M.frB c d))).run Tryz.prog W=.ok (.string (bs ([91] ++ M.frB a b ++ [44] ++ M.frB c d))) W:=fun W=>da (by simp;omega) W
 have A4:∀ W,(Op.stringOp .add (bs ([91] ++ M.frB a b ++ [44] ++ M.frB c d)) (ByteArray.mk #[93])).run Tryz.prog W=.ok (.string (bs ([91] ++ M.frB a b ++ [44] ++ M.frB c d ++ [93]))) W:=fun W=>da (m:=[93]) (by simp;omega) W
 generalize bs ([91] ++ M.frB a b ++ [44] ++ M.frB c d ++ [93])=s5 at *
 generalize bs ([91] ++ M.frB a b ++ [44] ++ M.frB c d)=s4 at *
 generalize bs ([91] ++ M.frB a b ++ [44])=s3 at *
 generalize bs ([91] ++ M.frB a b)=s2 at *
 generalize bs (M.frB a b)=t1 at *
 generalize bs (M.frB c d)=t2 at *
 replace P1:=uh P1
 replace P2:=uh P2
 clear l1 l2
 go_enter Tryz.func12,Tryz.ntmps12
 go_upto_region 1 with fail
 refine Rg.bF 11 [.is (.pointer (some ⟨w.heap.size,0,none⟩)),.is (.agg #[.int .i64 a,.int .i64 b]),.is (.string t1),.is (.string s2),.is (.string s3),.is (.pointer (some ⟨w.heap.size,2,none⟩)),.is (.agg #[.int .i64 c,.int .i64 d]),.is (.string t2),.is (.string s4),.is (.string s5),.is (.string s5)] (by kernel_rfl) (by kernel_rfl) (by kernel_rfl) ⟨?_,?_,?_,?_,?_,?_,?_,?_,?_,?_,?_,trivial⟩ ?_
 ·intro _ ac_ w_ hB hr
  have e1:ac_.tmps[1]?=some (.pointer (some ⟨w.heap.size,0,none⟩)):=hr 1 (by decide)
  exact Rg.aG rfl (by go_simp)
 ·intro _ ac_ w_ hB hr
  have e3:=Rg.ev1 (hr 3 (by decide))
  have k0:=aE hB c0
  have k1:=aE hB c1
  exact Rg.aG rfl (by go_simp)
 ·intro _ ac_ w_ hB hr
  have e4:=Rg.ev1 (hr 4 (by decide))
  have ef:=Rg.ef ac_
  exact Rg.bK rfl (by go_simp) (P1.out _)
 ·intro _ ac_ w_ hB hr
  have e5:=Rg.ev1 (hr 5 (by decide))
  have ec:=Rg.ec ac_
  exact Rg.aG rfl (by go_simp)
 ·intro _ ac_ w_ hB hr
  have e6:=Rg.ev1 (hr 6 (by decide))
  have ec:=Rg.ec ac_
  exact Rg.aG rfl (by go_simp)
 ·intro _ ac_ w_ hB hr
  have e1:ac_.tmps[1]?=some (.pointer (some ⟨w.heap.size,0,none⟩)):=hr 1 (by decide)
  exact Rg.aG rfl (by go_simp)
 ·intro _ ac_ w_ hB hr
  have e8:=Rg.ev1 (hr 8 (by decide))
  have k2:=aE hB c2
  have k3:=aE hB c3
  exact Rg.aG rfl (by go_simp)
 ·intro _ ac_ w_ hB hr
  have e9:=Rg.ev1 (hr 9 (by decide))
  have ef:=Rg.ef ac_
  exact Rg.bK rfl (by go_simp) (P2.out _)
 ·intro _ ac_ w_ hB hr
  have e7:=Rg.ev1 (hr 7 (by decide))
  have e10:=Rg.ev1 (hr 10 (by decide))
  exact Rg.aG rfl (by go_simp)
 ·intro _ ac_ w_ hB hr
  have e11:=Rg.ev1 (hr 11 (by decide))
  have ec:=Rg.ec ac_
  exact Rg.aG rfl (by go_simp)
 ·intro _ ac_ w_ hB hr
  have e12:=Rg.ev1 (hr 12 (by decide))
  exact Rg.aG rfl (by go_simp)
 intro vals wz hB hv hne
 have v_10:vals 10=.string s5:=hv 10 (by decide)
 simp only [Rg.am,Rg.fill,Act.put,Nat.reduceAdd]
 clear hv
 simp only [v_10]
 clear v_10
 unfold Rg.aV
 go_wp2
 go_ret
 exact ⟨rfl,B.trans (hB.mono B.size)⟩
theorem ev (n d:Int) (w:World) (hT:Tab w.heap.size w) (h1:-10000000000<n) (h2:n<10000000000) (h3:0≤d) (h4:d<10000000000) :
  Calls Tryz.prog 26 #[.agg #[.int .i64 n,.int .i64 d]] w fun e w'=>e=.returned (.string (bs (M.frB n d)))∧Below w.heap.size w w':=by
 have l1:=dF h1 h2
 have l2:=dF (n:=d) (by omega) h4
 obtain ⟨wc,hw3,C,B⟩:=gu w #[.int .i64 n,.int .i64 d] 40
 have c0:=C.box.c0
 have c1:=C.box.c1
 have HT:=uh hT
 clear hT
 have HI:=fun W (ht:Tab w.heap.size W)=>ns n w.heap.size W ht h1 h2
 have HN:=fun W (ht:Tab w.heap.size W)=>ns d w.heap.size W ht (by omega) h4
 by_cases hd:d=1
 ·subst hd
  rw [M.sx]
  generalize bs (Lib.itoa n)=s1 at *
  replace HI:=uh HI
  clear HN l1 l2
  go_enter Tryz.func26,Tryz.ntmps26
  go_wp2_with (go_at_call 44;(refine (HI.out _ (HT.out.at B)).mono ?_);rintro e w4 ⟨rfl,hb4⟩;(replace B:=B.trans (hb4.mono B.size)))
  go_ret
  exact ⟨rfl,B⟩
 rw [M.sy hd]
 have A1:∀ W,(Op.stringOp .add (bs (Lib.itoa n)) (ByteArray.mk #[47])).run Tryz.prog W=.ok (.string (bs (Lib.itoa n ++ [47]))) W:=fun W=>da (m:=[47]) (by simp;omega) W
 have A2:∀ W,(Op.stringOp .add (bs (Lib.itoa n ++ [47])) (bs (Lib.itoa d))).run Tryz.prog W=.ok (.string (bs (Lib.itoa n ++ [47] ++ Lib.itoa d))) W:=fun W=>da (by simp;omega) W
 generalize bs (Lib.itoa n ++ [47] ++ Lib.itoa d)=s4 at *
 generalize bs (Lib.itoa n ++ [47])=s2 at *
 generalize bs (Lib.itoa n)=s1 at *
 generalize bs (Lib.itoa d)=s3 at *
 replace HI:=uh HI
 replace HN:=uh HN
 clear l1 l2
 have hd1:(d == 1)=false:=beq_eq_false_iff_ne.2 hd
 go_enter Tryz.func26,Tryz.ntmps26
 go_upto_region 3 with fail
 refine Rg.bF 9 [.is (.pointer (some ⟨w.heap.size,0,none⟩)),.is (.int .i64 n),.is (.string s1),.is (.string s2),.is (.pointer (some ⟨w.heap.size,1,none⟩)),.is (.int .i64 d),.is (.string s3),.is (.string s4),.is (.string s4)] (by kernel_rfl) (by kernel_rfl) (by kernel_rfl) ⟨?_,?_,?_,?_,?_,?_,?_,?_,?_,trivial⟩ ?_
 ·intro _ ac_ w_ hB hr
  have e1:ac_.tmps[1]?=some (.pointer (some ⟨w.heap.size,0,none⟩)):=hr 1 (by decide)
  exact Rg.aG rfl (by go_simp)
 ·intro _ ac_ w_ hB hr
  have e9:=Rg.ev1 (hr 9 (by decide))
  have k0:=aE hB c0
  exact Rg.aG rfl (by go_simp)
 ·intro _ ac_ w_ hB hr
  have e10:=Rg.ev1 (hr 10 (by decide))
  have ef:=Rg.ef ac_
  exact Rg.bK rfl (by go_simp) (HI.out _ (HT.out.at (B.trans (hB.mono B.size))))
 ·intro _ ac_ w_ hB hr
  have e11:=Rg.ev1 (hr 11 (by decide))
  have ec:=Rg.ec ac_
  exact Rg.aG rfl (by go_simp)
 ·intro _ ac_ w_ hB hr
  have e1:ac_.tmps[1]?=some (.pointer (some ⟨w.heap.size,0,none⟩)):=hr 1 (by decide)
  exact Rg.aG rfl (by go_simp)
 ·intro _ ac_ w_ hB hr
  have e13:=Rg.ev1 (hr 13 (by decide))
  have k1:=aE hB c1
  exact Rg.aG rfl (by go_simp)
 ·intro _ ac_ w_ hB hr
  have e14:=Rg.ev1 (hr 14 (by decide))
  have ef:=Rg.ef ac_
  exact Rg.bK rfl (by go_simp) (HN.out _ (HT.out.at (B.trans (hB.mono B.size))))
 ·intro _ ac_ w_ hB hr
  have e12:=Rg.ev1 (hr 12 (by decide))
  have e15:=Rg.ev1 (hr 15 (by decide))
  exact Rg.aG rfl (by go_simp)
 ·intro _ ac_ w_ hB hr
  have e16:=Rg.ev1 (hr 16 (by decide))
  exact Rg.aG rfl (by go_simp)
 intro vals wz hB hv hne
 have v_8:vals 8=.string s4:=hv 8 (by decide)
 simp only [Rg.am,Rg.fill,Act.put,Nat.reduceAdd]
 clear hv
 simp only [v_8]
 clear v_8
 unfold Rg.aV
 go_wp2
 go_ret
 exact ⟨rfl,B.trans (hB.mono B.size)⟩
theorem iv (a b c d:Int) (w:World) (hT:Tab w.heap.size w) (h1:-10000000000<a) (h2:a<10000000000) (h3:0≤b) (h4:b<10000000000) (h5:-10000000000<c) (h6:c<10000000000) (h7:0≤d) (h8:d<10000000000) :
  Calls Tryz.prog 15 #[.agg #[.int .i64 a,.int .i64 b,.int .i64 c,.int .i64 d]] w fun e w'=>e=.returned (.string (bs (M.ivB a b c d)))∧Below w.heap.size w w':=by
 have l1:=M.fQ h1 h2 (show -10000000000<b by omega) h4
 have l2:=M.fQ h5 h6 (show -10000000000<d by omega) h8
 obtain ⟨wc,hw3,C,B⟩:=gu w #[.int .i64 a,.int .i64 b,.int .i64 c,.int .i64 d] 42
 have ⟨c0,c1,c2,c3,_,_,_,_,_⟩:=C.aR
 have HT:=uh hT
 clear hT
 have tabOn:∀ W,Below wc.heap.size wc W→Tab W.heap.size W:=fun W hW W' hW'=>HT.out W' ((B.trans (hW.mono B.size)).trans (hW'.mono (Nat.le_trans B.size hW.size)))
 replace tabOn:=uh tabOn
 have P1:=fun W (ht:Tab W.heap.size W)=>ev a b W ht h1 h2 h3 h4
 have P2:=fun W (ht:Tab W.heap.size W)=>ev c d W ht h5 h6 h7 h8
 unfold M.ivB
 have A1:∀ W,(Op.stringOp .add (ByteArray.mk #[91]) (bs (M.frB a b))).run Tryz.prog W=.ok (.string (bs ([91] ++ M.frB a b))) W:=fun W=>da (l:=[91]) (by simp;omega) W
 have A2:∀ W,(Op.stringOp .add (bs ([91] ++ M.frB a b)) (ByteArray.mk #[44])).run Tryz.prog W=.ok (.string (bs ([91] ++ M.frB a b ++ [44]))) W:=fun W=>da (m:=[44]) (by simp;omega) W
 have A3:∀ W,(Op.stringOp .add (bs ([91] ++ M.frB a b ++ [44])) (bs (M.frB c d))).run Tryz.prog W=.ok (.string (bs ([91] ++ M.frB a b ++ [44] ++ M.frB c d))) W:=fun W=>da (by simp;omega) W
 have A4:∀ W,(Op.stringOp .add (bs ([91] ++ M.frB a b ++ [44] ++ M.frB c d)) (ByteArray.mk #[93])).run Tryz.prog W=.ok (.string (bs ([91] ++ M.frB a b ++ [44] ++ M.frB c d ++ [93]))) W:=fun W=>da (m:=[93]) (by simp;omega) W
 generalize bs ([91] ++ M.frB a b ++ [44] ++ M.frB c d ++ [93])=s5 at *
 generalize bs ([91] ++ M.frB a b ++ [44] ++ M.frB c d)=s4 at *
 generalize bs ([91] ++ M.frB a b ++ [44])=s3 at *
 generalize bs ([91] ++ M.frB a b)=s2 at *
 generalize bs (M.frB a b)=t1 at *
 generalize bs (M.frB c d)=t2 at *
 replace P1:=uh P1
 replace P2:=uh P2
 clear l1 l2
 go_enter Tryz.func15,Tryz.ntmps15
 go_upto_region 1 with fail
 refine Rg.bF 11 [.is (.pointer (some ⟨w.heap.size,0,none⟩)),.is (.agg #[.int .i64 a,.int .i64 b]),.is (.string t1),.is (.string s2),.is (.string s3),.is (.pointer (some ⟨w.heap.size,2,none⟩)),.is (.agg #[.int .i64 c,.int .i64 d]),.is (.string t2),.is (.string s4),.is (.string s5),.is (.string s5)] (by kernel_rfl) (by kernel_rfl) (by kernel_rfl) ⟨?_,?_,?_,?_,?_,?_,?_,?_,?_,?_,?_,trivial⟩ ?_
 ·intro _ ac_ w_ hB hr
  have e1:ac_.tmps[1]?=some (.pointer (some ⟨w.heap.size,0,none⟩)):=hr 1 (by decide)
  exact Rg.aG rfl (by go_simp)
 ·intro _ ac_ w_ hB hr
  have e3:=Rg.ev1 (hr 3 (by decide))
  have k0:=aE hB c0
  have k1:=aE hB c1
  exact Rg.aG rfl (by go_simp)
 ·intro _ ac_ w_ hB hr
  have e4:=Rg.ev1 (hr 4 (by decide))
  have ef:=Rg.ef ac_
  exact Rg.bK rfl (by go_simp) (P1.out _ (tabOn.out _ hB))
 ·intro _ ac_ w_ hB hr
  have e5:=Rg.ev1 (hr 5 (by decide))
  have ec:=Rg.ec ac_
  exact Rg.aG rfl (by go_simp)
 ·intro _ ac_ w_ hB hr
  have e6:=Rg.ev1 (hr 6 (by decide))
  have ec:=Rg.ec ac_
  exact Rg.aG rfl (by go_simp)
 ·intro _ ac_ w_ hB hr
  have e1:ac_.tmps[1]?=some (.pointer (some ⟨w.heap.size,0,none⟩)):=hr 1 (by decide)
  exact Rg.aG rfl (by go_simp)
 ·intro _ ac_ w_ hB hr
  have e8:=Rg.ev1 (hr 8 (by decide))
  have k2:=aE hB c2
  have k3:=aE hB c3
  exact Rg.aG rfl (by go_simp)
 ·intro _ ac_ w_ hB hr
  have e9:=Rg.ev1 (hr 9 (by decide))
  have ef:=Rg.ef ac_
  exact Rg.bK rfl (by go_simp) (P2.out _ (tabOn.out _ hB))
 ·intro _ ac_ w_ hB hr
  have e7:=Rg.ev1 (hr 7 (by decide))
  have e10:=Rg.ev1 (hr 10 (by decide))
  exact Rg.aG rfl (by go_simp)
 ·intro _ ac_ w_ hB hr
  have e11:=Rg.ev1 (hr 11 (by decide))
  have ec:=Rg.ec ac_
  exact Rg.aG rfl (by go_simp)
 ·intro _ ac_ w_ hB hr
  have e12:=Rg.ev1 (hr 12 (by decide))
  exact Rg.aG rfl (by go_simp)
 intro vals wz hB hv hne
 have v_10:vals 10=.string s5:=hv 10 (by decide)
 simp only [Rg.am,Rg.fill,Act.put,Nat.reduceAdd]
 clear hv
 simp only [v_10]
 clear v_10
 unfold Rg.aV
 go_wp2
 go_ret
 exact ⟨rfl,B.trans (hB.mono B.size)⟩
end
end Go.Proofs.YtgfkcoablfjbcaaGreatDoor
