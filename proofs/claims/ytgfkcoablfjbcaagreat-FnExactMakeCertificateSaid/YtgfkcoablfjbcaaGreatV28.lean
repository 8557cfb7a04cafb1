/-
  Joined texts: contracts and plain lemmas.
-/
import Derived.Test.YtgfkcoablfjbcaaGreatV1
import Derived.Test.YtgfkcoablfjbcaaGreatV27
import Derived.Laws.IdiomCopy
import Derived.Shelf.Abstract
import Derived.Test.YtgfkcoablfjbcaaGreatV3
import Derived.Test.YtgfkcoablfjbcaaGreatV13
import Derived.Test.YtgfkcoablfjbcaaGreatV2
import Derived.Test.YtgfkcoablfjbcaaGreatV25
import Derived.Test.YtgfkcoablfjbcaaGreatV22
import Derived.Test.YtgfkcoablfjbcaaGreatV14
set_option linter.unusedSimpArgs false
set_option linter.unusedVariables false
set_option maxRecDepth 100000
set_option maxHeartbeats 8000000
namespace Go.Proofs.YtgfkcoablfjbcaaGreat
section
open Go.RowKit Go.Shelf
def EPt:Rw.Enc (Int × Int × Int) where
 t:=57
 k:=3
 cells:=fun q=>[.int .i64 q.1,.int .i64 q.2.1,.int .i64 q.2.2]
 len:=fun _=>rfl
 one:=fun x u hu=>by simp only [List.mem_cons,List.not_mem_nil,or_false] at hu;rcases hu with rfl | rfl | rfl <;> rfl
 pos:=by decide
theorem sk:(Tryz.prog.info? 57).map (fun i=>(i.zero,i.size,i.bytes))=some (some (.agg #[.int .i64 0,.int .i64 0,.int .i64 0]),3,24):=by kernel_rfl
theorem sQ:Rw.Fits Tryz.prog EPt 31:=⟨Tryz.underlying31,by
 obtain ⟨i0,hi,hz0,hz1,hz2⟩:=info_parts sk
 exact ⟨i0,_,hi,hz0,hz1,by omega,rfl⟩⟩
theorem Rw.Seen.pts {w:World} {hi:Nat} {v:Value} {l:List Pt} (h:Rw.Seen EPt w hi v l):dr w v l:=by
 obtain ⟨a,cap,rfl,h1,h2,h3⟩:=h
 refine ⟨a,cap,rfl,?_⟩
 cases l with
 | nil=>exact Or.inl rfl
 | cons p l=>
 obtain ⟨g,x,e,-⟩:=h3 0 (by simp)
 refine Or.inr ⟨g,e,fun i y hy=>?_⟩
 obtain ⟨g2,x2,e2,-,hx2,hc⟩:=h3 i (List.getElem?_eq_some_iff.1 hy).1
 rw [e] at e2
 injection e2 with e2
 injection e2 with e2
 subst e2
 rw [hy] at hx2
 obtain rfl:=Option.some.inj hx2.out
 exact ⟨hc 0 _ rfl,hc 1 _ rfl,hc 2 _ rfl⟩
theorem ow (a b:Int) (w:World) :
  Calls Tryz.prog 10 #[.agg #[.int .i64 a,.int .i64 b]] w fun e w'=>e=.returned (.agg #[.int .i64 a,.int .i64 b])∧Below w.heap.size w w':=by
 go_enter Tryz.func10,Tryz.ntmps10
 go_wp2
 exact bodyPost_ret (v:=.agg #[.int .i64 a,.int .i64 b]) (by simp [results,Tryz.results10,go_sem, *]) rfl (⟨rfl,(by repeat (first | exact xN _ _ | refine aR ?_ _ | refine aS ?_ (by assumption) | refine Below.drew ?_ | refine xM ?_ (by first | exact xO _ | exact Nat.le_add_right _ _ | (simp <;> omega)) _ | refine aL ?_ _))⟩)
theorem rE (a b c:Int) (w:World) :
  Calls Tryz.prog 28 #[.agg #[.int .i64 a,.int .i64 b,.int .i64 c]] w fun e w'=>e=.returned (.agg #[.int .i64 a,.int .i64 b,.int .i64 c])∧Below w.heap.size w w':=by
 go_enter Tryz.func28,Tryz.ntmps28
 go_wp2
 exact bodyPost_ret (v:=.agg #[.int .i64 a,.int .i64 b,.int .i64 c]) (by simp [results,Tryz.results28,go_sem, *]) rfl (⟨rfl,(by repeat (first | exact xN _ _ | refine aR ?_ _ | refine aS ?_ (by assumption) | refine Below.drew ?_ | refine xM ?_ (by first | exact xO _ | exact Nat.le_add_right _ _ | (simp <;> omega)) _ | refine aL ?_ _))⟩)
theorem qP (a b c d e f:Int) (w:World) :
  Calls Tryz.prog 37 #[.agg #[.int .i64 a,.int .i64 b,.int .i64 c],.agg #[.int .i64 d,.int .i64 e,.int .i64 f]] w fun r w'=>r=.returned (.bool (decide ((a,b,c)=(d,e,f))))∧Below w.heap.size w w':=by
 by_cases h1:a=d <;> by_cases h2:b=e <;> by_cases h3:c=f
 all_goals
  go_enter Tryz.func37,Tryz.ntmps37
  go_wp2
  go_ret;exact ⟨cn (by simp [h1,h2,h3]),(by repeat (first | exact xN _ _ | refine aR ?_ _ | refine aS ?_ (by assumption) | refine Below.drew ?_ | refine xM ?_ (by first | exact xO _ | exact Nat.le_add_right _ _ | (simp <;> omega)) _ | refine aL ?_ _))⟩
theorem vB {w:World} {base g n cap j:Nat} {xs:List (Int × Int × Int)} (hn:n=xs.length) (h:Rw.Own EPt w base (.slice (some ⟨g,0,none⟩) n cap) xs) (hj:j<n) (c:Int × Int × Int) {ys:List (Int × Int × Int)} (hy:ys=xs.set j c) :
  Rw.Own EPt (((w.setCell ⟨g,j*3,none⟩ (.int .i64 c.1)).setCell ⟨g,j*3+1,none⟩ (.int .i64 c.2.1)).setCell ⟨g,j*3+2,none⟩ (.int .i64 c.2.2)) base (.slice (some ⟨g,0,none⟩) n cap) ys∧w.grownBy (((w.setCell ⟨g,j*3,none⟩ (.int .i64 c.1)).setCell ⟨g,j*3+1,none⟩ (.int .i64 c.2.1)).setCell ⟨g,j*3+2,none⟩ (.int .i64 c.2.2)) (some g):=by
 subst hn hy
 have h1:=World.ownsRow.stored (g:=g) (cap:=cap) h (j*3) (.int .i64 c.1)
 have h2:=World.ownsRow.stored (g:=g) (cap:=cap) h1.1 (j*3+1) (.int .i64 c.2.1)
 have h3:=World.ownsRow.stored (g:=g) (cap:=cap) h2.1 (j*3+2) (.int .i64 c.2.2)
 refine ⟨?_,dE (dE (h1.2) h2.2) h3.2⟩
 have e:(((xs.flatMap EPt.cells).set (j*3) (.int .i64 c.1)).set (j*3+1) (.int .i64 c.2.1)).set (j*3+2) (.int .i64 c.2.2)=(xs.set j c).flatMap EPt.cells:=by
  refine List.ext_getElem? fun t=>?_
  have hl:(xs.flatMap EPt.cells).length=xs.length*3:=Rw.cI EPt xs
  rw [Rw.jX EPt xs j c hj]
  have hk:EPt.k=3:=rfl
  rw [hk]
  rcases (show t=j*3∨t=j*3+1∨t=j*3+2∨¬(j*3≤t∧t<j*3+3) by omega) with ht | ht | ht | ht
  ·subst ht
   rw [List.getElem?_set_ne (by omega),List.getElem?_set_ne (by omega),List.getElem?_set_self (by first | omega | (simp only [List.length_set];omega)),if_pos (by omega),show j*3 - j*3=0 from by omega]
   rfl
  ·subst ht
   rw [List.getElem?_set_ne (by omega),List.getElem?_set_self (by first | omega | (simp only [List.length_set];omega)),if_pos (by omega),show j*3+1 - j*3=1 from by omega]
   rfl
  ·subst ht
   rw [List.getElem?_set_self (by first | omega | (simp only [List.length_set];omega)),if_pos (by omega),show j*3+2 - j*3=2 from by omega]
   rfl
  rw [List.getElem?_set_ne (by omega),List.getElem?_set_ne (by omega),List.getElem?_set_ne (by omega),if_neg ht]
 have h9:=h3.1
 rw [e] at h9
 unfold Rw.Own
 rw [List.length_set]
 exact h9
theorem ri {w:World} {base g n cap j:Nat} {xs:List (Int × Int × Int)} {c:Int × Int × Int} (hn:n=xs.length) (h:Rw.Own EPt w base (.slice (some ⟨g,0,none⟩) n cap) xs) (hc:xs[j]?=some c) :
  w.cell? ⟨g,j*3,none⟩=some (.int .i64 c.1)∧w.cell? ⟨g,j*3+1,none⟩=some (.int .i64 c.2.1)∧w.cell? ⟨g,j*3+2,none⟩=some (.int .i64 c.2.2)∧w.frozen? ⟨g,j*3,none⟩=false∧w.frozen? ⟨g,j*3+1,none⟩=false∧w.frozen? ⟨g,j*3+2,none⟩=false:=by
 have e0:=h.cellAt hn (j*3) _ ((Rw.flat_get EPt xs j 0 c hc (by decide)).trans rfl)
 have e1:=h.cellAt hn (j*3+1) _ ((Rw.flat_get EPt xs j 1 c hc (by decide)).trans rfl)
 have e2:=h.cellAt hn (j*3+2) _ ((Rw.flat_get EPt xs j 2 c hc (by decide)).trans rfl)
 exact ⟨e0.1,e1.1,e2.1,e0.2,e1.2,e2.2⟩
theorem jW (v u:Value) (xs ys:List (Int × Int × Int)) (w:World) (h1 h2:Nat) (hx:Rw.Seen EPt w h1 v xs) (hy:Rw.Seen EPt w h2 u ys) (hh1:h1≤w.heap.size) (hh2:h2≤w.heap.size) :
  Calls Tryz.prog 14 #[v,u] w fun e w'=>e=.returned (.bool (decide (xs=ys)))∧Below w.heap.size w w':=by
 obtain ⟨a,cap,rfl,hm,hm2,hv⟩:=hx
 obtain ⟨a',cap',rfl,hm',hm2',hv'⟩:=hy
 by_cases hl:xs.length=ys.length
 ·have hl':=xK hl
  rw [hl] at hv hm ⊢
  clear hl
  obtain ⟨n,hn⟩:∃ n,n=ys.length:=⟨_,rfl⟩
  rw [←hn] at hv hv' hm hm' ⊢
  have hn:=xK hn
  have hnm:(n:Int)≤9223372036854775807:=by omega
  go_enter Tryz.func14,Tryz.ntmps14
  go_wp2
  go_loopw [5] (fun vi wr=>∃ k:Nat,k≤n∧vi=.int .i64 k∧Hid (∀ j:Nat,j<k→xs[j]?=ys[j]?)∧Below w.heap.size w wr) (fun vi _=>n - (intOf vi).toNat)
  case atStart=>exact ⟨0,by omega,rfl,xK (fun j h=>by omega),xN _ _⟩
  case round=>
  obtain ⟨k,hk,rfl,Hall,hbr⟩:=hrel
  by_cases hlt:k<n
  ·obtain ⟨g,x,rfl,hg,hx,hcell⟩:=hv k (by omega)
   obtain ⟨g',y,rfl,hg',hy,hcell'⟩:=hv' k hlt
   have e0_:wr.cell? ⟨g,k*3,none⟩=some (.int .i64 x.1):=(hbr.cell (p:=⟨g,k*3,none⟩) (Nat.lt_of_lt_of_le hg hh1)).trans (hcell 0 _ rfl)
   have e1_:wr.cell? ⟨g,k*3+1,none⟩=some (.int .i64 x.2.1):=(hbr.cell (p:=⟨g,k*3+1,none⟩) (Nat.lt_of_lt_of_le hg hh1)).trans (hcell 1 _ rfl)
   have e2_:wr.cell? ⟨g,k*3+2,none⟩=some (.int .i64 x.2.2):=(hbr.cell (p:=⟨g,k*3+2,none⟩) (Nat.lt_of_lt_of_le hg hh1)).trans (hcell 2 _ rfl)
   have f0_:wr.cell? ⟨g',k*3,none⟩=some (.int .i64 y.1):=(hbr.cell (p:=⟨g',k*3,none⟩) (Nat.lt_of_lt_of_le hg' hh2)).trans (hcell' 0 _ rfl)
   have f1_:wr.cell? ⟨g',k*3+1,none⟩=some (.int .i64 y.2.1):=(hbr.cell (p:=⟨g',k*3+1,none⟩) (Nat.lt_of_lt_of_le hg' hh2)).trans (hcell' 1 _ rfl)
   have f2_:wr.cell? ⟨g',k*3+2,none⟩=some (.int .i64 y.2.2):=(hbr.cell (p:=⟨g',k*3+2,none⟩) (Nat.lt_of_lt_of_le hg' hh2)).trans (hcell' 2 _ rfl)
   clear hv hv' hcell hcell'
   obtain ⟨x1,x2,x3⟩:=x
   obtain ⟨y1,y2,y3⟩:=y
   simp only [] at e0_ e1_ e2_ f0_ f1_ f2_
   have HE:=fun w=>qP x1 x2 x3 y1 y2 y3 w
   have hkk:((k:Nat):Int)<((n:Nat):Int):=by omega
   by_cases hxy:(x1,x2,x3)=(y1,y2,y3)
   ·have hd:decide ((x1,x2,x3)=(y1,y2,y3))=true:=decide_eq_true hxy
    simp only [hd] at HE
    have HE:=xK HE
    have hxy:=xK hxy
    clear hd
    go_upto_region 6 with fail
    refine Rg.bM 10 [.is (.slice (some ⟨g,0,none⟩) n cap),.is (.int .i64 ((k:Nat):Int)),.is (.pointer (some ⟨g,k*3,none⟩)),.is (.agg #[.int .i64 x1,.int .i64 x2,.int .i64 x3]),.is (.slice (some ⟨g',0,none⟩) n cap'),.is (.int .i64 ((k:Nat):Int)),.is (.pointer (some ⟨g',k*3,none⟩)),.is (.agg #[.int .i64 y1,.int .i64 y2,.int .i64 y3]),.is (.bool true),.is (.bool false)] (by kernel_rfl) (by kernel_rfl) (by kernel_rfl) ⟨?_,?_,?_,?_,?_,?_,?_,?_,?_,?_,trivial⟩ ?_
    ·intro _ ac_ w_ hB hr
     have e0:ac_.tmps[0]?=some (.slice (some ⟨g,0,none⟩) n cap):=hr 0 (by decide)
     exact Rg.aG rfl (by go_simp)
    ·intro _ ac_ w_ hB hr
     have e5:ac_.tmps[5]?=some (.int .i64 ((k:Nat):Int)):=hr 5 (by decide)
     exact Rg.aG rfl (by go_simp)
    ·intro _ ac_ w_ hB hr
     have e17:=Rg.ev1 (hr 17 (by decide))
     have e18:=Rg.ev1 (hr 18 (by decide))
     exact Rg.aG rfl (by (first | (go_simp;done) | (go_simp;omega)))
    ·intro _ ac_ w_ hB hr
     have e19:=Rg.ev1 (hr 19 (by decide))
     have k0:=aE hB e0_
     have k1:=aE hB e1_
     have k2:=aE hB e2_
     exact Rg.aG rfl (by (first | (go_simp;done) | (go_simp;omega)))
    ·intro _ ac_ w_ hB hr
     have e1:ac_.tmps[1]?=some (.slice (some ⟨g',0,none⟩) n cap'):=hr 1 (by decide)
     exact Rg.aG rfl (by go_simp)
    ·intro _ ac_ w_ hB hr
     have e5:ac_.tmps[5]?=some (.int .i64 ((k:Nat):Int)):=hr 5 (by decide)
     exact Rg.aG rfl (by go_simp)
    ·intro _ ac_ w_ hB hr
     have e21:=Rg.ev1 (hr 21 (by decide))
     have e22:=Rg.ev1 (hr 22 (by decide))
     exact Rg.aG rfl (by (first | (go_simp;done) | (go_simp;omega)))
    ·intro _ ac_ w_ hB hr
     have e23:=Rg.ev1 (hr 23 (by decide))
     have k0:=aE hB f0_
     have k1:=aE hB f1_
     have k2:=aE hB f2_
     exact Rg.aG rfl (by (first | (go_simp;done) | (go_simp;omega)))
    ·intro _ ac_ w_ hB hr
     have e20:=Rg.ev1 (hr 20 (by decide))
     have e24:=Rg.ev1 (hr 24 (by decide))
     have ef:=Rg.ef ac_
     exact Rg.bs rfl (by go_simp) (HE.out _)
    ·intro _ ac_ w_ hB hr
     have e25:=Rg.ev1 (hr 25 (by decide))
     exact Rg.aG rfl (by go_simp)
    intro vals wz hB hv hne
    have v_9:vals 9=.bool false:=hv 9 (by decide)
    simp only [Rg.an,Rg.fill,Act.put,Nat.reduceAdd]
    clear hv
    simp only [v_9]
    clear v_9
    unfold Rg.aW
    go_wp2
    go_roundw
    case rel=>exact ⟨k+1,by omega,by go_num,xK (fun j hj=>if q:j=k then by rw [q,hx.out,hy.out,hxy.out] else Hall.out j (by omega)),hbr.trans (hB.mono hbr.size)⟩
    case measure=>simp [intOf] <;> omega
   have hd:decide ((x1,x2,x3)=(y1,y2,y3))=false:=decide_eq_false hxy
   simp only [hd] at HE
   have HE:=xK HE
   clear hd
   have hnq:decide (xs=ys)=false:=by
    rw [decide_eq_false_iff_not]
    intro he
    have h1:=hx.out
    rw [he,hy.out] at h1
    exact hxy (Option.some.inj h1).symm
   have hnq:=xK hnq
   have hxy:=xK hxy
   go_upto_region 6 with fail
   refine Rg.bM 10 [.is (.slice (some ⟨g,0,none⟩) n cap),.is (.int .i64 ((k:Nat):Int)),.is (.pointer (some ⟨g,k*3,none⟩)),.is (.agg #[.int .i64 x1,.int .i64 x2,.int .i64 x3]),.is (.slice (some ⟨g',0,none⟩) n cap'),.is (.int .i64 ((k:Nat):Int)),.is (.pointer (some ⟨g',k*3,none⟩)),.is (.agg #[.int .i64 y1,.int .i64 y2,.int .i64 y3]),.is (.bool false),.is (.bool true)] (by kernel_rfl) (by kernel_rfl) (by kernel_rfl) ⟨?_,?_,?_,?_,?_,?_,?_,?_,?_,?_,trivial⟩ ?_
   ·intro _ ac_ w_ hB hr
    have e0:ac_.tmps[0]?=some (.slice (some ⟨g,0,none⟩) n cap):=hr 0 (by decide)
    exact Rg.aG rfl (by go_simp)
   ·intro _ ac_ w_ hB hr
    have e5:ac_.tmps[5]?=some (.int .i64 ((k:Nat):Int)):=hr 5 (by decide)
    exact Rg.aG rfl (by go_simp)
   ·intro _ ac_ w_ hB hr
    have e17:=Rg.ev1 (hr 17 (by decide))
    have e18:=Rg.ev1 (hr 18 (by decide))
    exact Rg.aG rfl (by (first | (go_simp;done) | (go_simp;omega)))
   ·intro _ ac_ w_ hB hr
    have e19:=Rg.ev1 (hr 19 (by decide))
    have k0:=aE hB e0_
    have k1:=aE hB e1_
    have k2:=aE hB e2_
    exact Rg.aG rfl (by (first | (go_simp;done) | (go_simp;omega)))
   ·intro _ ac_ w_ hB hr
    have e1:ac_.tmps[1]?=some (.slice (some ⟨g',0,none⟩) n cap'):=hr 1 (by decide)
    exact Rg.aG rfl (by go_simp)
   ·intro _ ac_ w_ hB hr
    have e5:ac_.tmps[5]?=some (.int .i64 ((k:Nat):Int)):=hr 5 (by decide)
    exact Rg.aG rfl (by go_simp)
   ·intro _ ac_ w_ hB hr
    have e21:=Rg.ev1 (hr 21 (by decide))
    have e22:=Rg.ev1 (hr 22 (by decide))
    exact Rg.aG rfl (by (first | (go_simp;done) | (go_simp;omega)))
   ·intro _ ac_ w_ hB hr
    have e23:=Rg.ev1 (hr 23 (by decide))
    have k0:=aE hB f0_
    have k1:=aE hB f1_
    have k2:=aE hB f2_
    exact Rg.aG rfl (by (first | (go_simp;done) | (go_simp;omega)))
   ·intro _ ac_ w_ hB hr
    have e20:=Rg.ev1 (hr 20 (by decide))
    have e24:=Rg.ev1 (hr 24 (by decide))
    have ef:=Rg.ef ac_
    exact Rg.bs rfl (by go_simp) (HE.out _)
   ·intro _ ac_ w_ hB hr
    have e25:=Rg.ev1 (hr 25 (by decide))
    exact Rg.aG rfl (by go_simp)
   intro vals wz hB hv hne
   have v_9:vals 9=.bool true:=hv 9 (by decide)
   simp only [Rg.an,Rg.fill,Act.put,Nat.reduceAdd]
   clear hv
   simp only [v_9]
   clear v_9
   unfold Rg.aW
   go_wp2
   go_ret
   exact ⟨cn hnq.out.symm,hbr.trans (hB.mono hbr.size)⟩
  obtain rfl:n=k:=by omega
  clear hv hv'
  have hall:decide (xs=ys)=true:=by
   rw [decide_eq_true_iff]
   refine List.ext_getElem? fun j=>?_
   rcases Nat.lt_or_ge j n with q | q
   ·exact Hall.out j q
   rw [List.getElem?_eq_none (l:=xs) (i:=j) (by have:=hl'.out;have:=hn.out;omega),List.getElem?_eq_none (l:=ys) (i:=j) (by have:=hn.out;omega)]
  have hall:=xK hall
  go_wp2
  go_ret
  exact ⟨cn hall.out.symm,hbr⟩
 have hne:Hid (decide (xs=ys)=false):=xK (by
  rw [decide_eq_false_iff_not]
  exact fun he=>hl (by rw [he]))
 have hl2:¬ ((xs.length:Int)=ys.length):=by omega
 clear hv hv'
 go_enter Tryz.func14,Tryz.ntmps14
 go_wp2
 go_ret
 exact ⟨cn hne.out.symm,(by repeat (first | exact xN _ _ | refine aR ?_ _ | refine aS ?_ (by assumption) | refine Below.drew ?_ | refine xM ?_ (by first | exact xO _ | exact Nat.le_add_right _ _ | (simp <;> omega)) _ | refine aL ?_ _))⟩
def M.pj (k:Int) (i:Nat):Int × Int × Int:=(k+3*i,k+3*i+1,k+3*i+1+1)
def M.cS (k:Int) (n:Nat):List (Int × Int × Int):=(List.range n).map (M.pj k)
theorem M.eK (k:Int) (n:Nat):(M.cS k n).length=n:=by simp [M.cS]
theorem M.oj {k:Int} {n j:Nat} (h:j<n):(M.cS k n)[j]?=some (M.pj k j):=by simp [M.cS,h]
theorem M.nE {k:Int} {j:Nat} {xs:List (Int × Int × Int)} (h:j<xs.length):(M.cS k j ++ xs.drop j).set j (M.pj k j)=M.cS k (j+1) ++ xs.drop (j+1):=by
 have hl:=M.eK k j
 rw [List.set_append_right _ _ (by omega)]
 rw [hl,Nat.sub_self,List.drop_eq_getElem_cons h,List.set_cons_zero]
 unfold M.cS
 rw [List.range_succ,List.map_append]
 simp
theorem gj (v:Value) (xs:List (Int × Int × Int)) (k:Int) (w:World) (base:Nat) (hx:Rw.Own EPt w base v xs) (h1:0≤k) (h2:k+3*xs.length≤4000000000000000000) :
  Calls Tryz.prog 15 #[v,.int .i64 k] w fun e w'=>e=.returned (.int .i64 (k+3*xs.length))∧Rw.Own EPt w' base v (M.cS k xs.length)∧w.grownBy w' v.ownBlock:=by
 rcases hx.forms with ⟨rfl,rfl⟩ | ⟨g,cap,rfl,hg,hgs,hc,hc2⟩
 ·go_enter Tryz.func15,Tryz.ntmps15
  go_wp2
  go_loop [1,5] (fun vk vi=>vk=.int .i64 k∧vi=.int .i64 0) (fun _ _=>0)
  case atStart=>exact ⟨rfl,rfl⟩
  case round=>
  obtain ⟨rfl,rfl⟩:=hrel
  go_wp2
  go_ret
  exact ⟨iW (by simp),hx,el _ _⟩
 go_enter Tryz.func15,Tryz.ntmps15
 go_wp2
 go_loopw [1,5] (fun vk vi wr=>∃ j:Nat,j≤xs.length∧vi=.int .i64 j∧vk=.int .i64 (k+3*j)∧Rw.Own EPt wr base (.slice (some ⟨g,0,none⟩) xs.length cap) (M.cS k j ++ xs.drop j)∧w.grownBy wr (some g)) (fun _ vi _=>xs.length - (intOf vi).toNat)
 case atStart=>exact ⟨0,by omega,rfl,by simp,by simpa [M.cS] using hx,el _ _⟩
 case round=>
 obtain ⟨j,hj,rfl,rfl,hown,hgr⟩:=hrel
 have hlen:(M.cS k j ++ xs.drop j).length=xs.length:=by rw [List.length_append,M.eK,List.length_drop];omega
 by_cases hlt:j<xs.length
 ·have hj0:(M.cS k j ++ xs.drop j)[j]?=some xs[j]:=by
   rw [List.getElem?_append_right (by rw [M.eK];omega),M.eK,Nat.sub_self,List.getElem?_drop]
   simp [hlt]
  obtain ⟨c0,c1,c2,f0,f1,f2⟩:=ri hlen.symm hown hj0
  have hst:=xK (vB hlen.symm hown hlt (M.pj k j) (M.nE hlt).symm)
  generalize xs[j]=y at *
  clear hlen hj0
  go_wp2
  go_roundw
  case rel=>exact ⟨j+1,by omega,by go_num,by congr 1;omega,hst.out.1,dE hgr hst.out.2⟩
  case measure=>simp [intOf] <;> omega
 obtain rfl:j=xs.length:=by omega
 clear hlen
 go_wp2
 go_ret
 exact ⟨rfl,by simpa using hown,hgr⟩
def dB (w:World) (v:Value) (xs:List Pt):Prop:=
 ∃ (A:Option Addr) (cap:Nat),v=.slice A xs.length cap∧(xs.length:Int)≤9223372036854775807∧
  ∀ k,k<xs.length→∃ g o x,A=some ⟨g,o,none⟩∧g<w.heap.size∧Hid (xs[k]?=some x)∧w.cell? ⟨g,o+k*3,none⟩=some (.int .i64 x.1)∧w.cell? ⟨g,o+k*3+1,none⟩=some (.int .i64 x.2.1)∧w.cell? ⟨g,o+k*3+2,none⟩=some (.int .i64 x.2.2)
theorem dB.keep {w w':World} {v:Value} {xs:List Pt} (h:dB w v xs) (hb:Below w.heap.size w w'):dB w' v xs:=by
 obtain ⟨A,cap,rfl,hm,hv⟩:=h
 refine ⟨A,cap,rfl,hm,fun k hk=>?_⟩
 obtain ⟨g,o,x,hA,hg,hx,h0,h1,h2⟩:=hv k hk
 exact ⟨g,o,x,hA,Nat.lt_of_lt_of_le hg hb.size,hx,aE hb h0,aE hb h1,aE hb h2⟩
theorem j9 (v:Value) (xs:List Pt) (w:World) (hx:dB w v xs) :
  Calls Tryz.prog 8 #[v,.int .i64 1048576] w fun e w'=>e=.returned (.int .i64 (if xs.length≤1048576 then (1048576 - xs.length:Int) else -1))∧w=w':=by
 obtain ⟨A,cap,rfl,hm,hv⟩:=hx
 clear hv
 by_cases h:xs.length≤1048576
 ·rw [if_pos h]
  generalize xs.length=n at *
  go_enter Tryz.func8,Tryz.ntmps8
  go_wp2
  go_ret
  exact ⟨rfl,rfl⟩
 rw [if_neg h]
 generalize xs.length=n at *
 go_enter Tryz.func8,Tryz.ntmps8
 go_wp2
 go_ret
 exact ⟨rfl,rfl⟩
theorem oQ (n:Nat):(madeCells #[.int .i64 0,.int .i64 0,.int .i64 0] (n*3)).toList=(List.replicate n ((0:Int),(0:Int),(0:Int))).flatMap EPt.cells:=by
 have e:(madeCells #[.int .i64 0,.int .i64 0,.int .i64 0] (n*3))=madeCells #[Value.int .i64 0] (n*3):=by
  unfold madeCells
  congr 1
  funext i
  have:i % 3=0∨i % 3=1∨i % 3=2:=by omega
  rcases this with h | h | h <;> simp [h,Nat.mod_one]
 rw [e,toList_madeCells_one]
 clear e
 induction n with
 | zero=>rfl
 | succ n ih=>
 rw [List.replicate_succ,List.flatMap_cons,←ih,show (n+1)*3=n*3+1+1+1 by omega,List.replicate_succ,List.replicate_succ,List.replicate_succ]
 rfl
theorem qI {xs:List Pt} {n j:Nat} {x:Pt} (hn:n=xs.length) (h:xs[j]?=some x):xs.take (j+1) ++ List.replicate (n - (j+1)) ((0:Int),(0:Int),(0:Int))=(xs.take j ++ List.replicate (n - j) ((0:Int),(0:Int),(0:Int))).set j x:=by
 have hj:=(List.getElem?_eq_some_iff.1 h).1
 rw [List.set_append_right _ _ (by rw [List.length_take];omega),List.length_take,show j - min j xs.length=0 by omega,show n - j=(n - (j+1))+1 by omega,List.replicate_succ,List.set_cons_zero,List.take_add_one,h]
 simp
theorem oy (v:Value) (xs:List Pt) (w:World) (hx:dB w v xs) (hn:xs.length≤1048576) :
  Calls Tryz.prog 11 #[v] w fun e w'=>∃ v',e=.returned v'∧Rw.Own EPt w' w.heap.size v' xs∧Below w.heap.size w w':=by
 obtain ⟨A,cap,rfl,hm,hv⟩:=hx
 have Hv:=xK hv
 clear hv
 obtain ⟨i0,hi,hz0,hz1,hz2⟩:=info_parts sk
 obtain ⟨w1,hrun,hown1,hg1⟩:=run_make_full (P:=Tryz.prog) w w.heap.size 31 57 i0 (.agg #[.int .i64 0,.int .i64 0,.int .i64 0]) 3 Tryz.underlying31 hi hz0 hz1 .i64 .i64 xs.length (by rw [hz2];omega) (by unfold maxLen;omega) (xO _)
 go_enter Tryz.func11,Tryz.ntmps11
 go_wp2
 have hown1:Rw.Own EPt w1 w.heap.size (.slice (some ⟨w.heap.size,0,none⟩) xs.length xs.length) (List.replicate xs.length ((0:Int),(0:Int),(0:Int))):=by
  unfold Rw.Own
  rw [←oQ,List.length_replicate]
  exact hown1
 have hb1:Below w.heap.size w w1:=cN hg1 (xO _) (fun k hk=>by cases hk)
 go_loopw [4] (fun vi wr=>∃ j:Nat,j≤xs.length∧vi=.int .i64 j∧Rw.Own EPt wr w.heap.size (.slice (some ⟨w.heap.size,0,none⟩) xs.length xs.length) (xs.take j ++ List.replicate (xs.length - j) ((0:Int),(0:Int),(0:Int)))∧Below w.heap.size w wr) (fun vi _=>xs.length - (intOf vi).toNat)
 case atStart=>exact ⟨0,by omega,rfl,by simpa using hown1,hb1⟩
 case round=>
 obtain ⟨j,hj,rfl,hown,hbr⟩:=hrel
 have hlen:(xs.take j ++ List.replicate (xs.length - j) ((0:Int),(0:Int),(0:Int))).length=xs.length:=by rw [List.length_append,List.length_take,List.length_replicate];omega
 by_cases hlt:j<xs.length
 ·obtain ⟨g,o,x,rfl,hg,hx,h0,h1,h2⟩:=Hv.out j hlt
  have e0:=(hbr.cell (p:=⟨g,o+j*3,none⟩) hg).trans h0
  have e1:=(hbr.cell (p:=⟨g,o+j*3+1,none⟩) hg).trans h1
  have e2:=(hbr.cell (p:=⟨g,o+j*3+2,none⟩) hg).trans h2
  have hj0:(xs.take j ++ List.replicate (xs.length - j) ((0:Int),(0:Int),(0:Int)))[j]?=some (0,0,0):=by
   rw [List.getElem?_append_right (by rw [List.length_take];omega),List.length_take,show j - min j xs.length=0 by omega,List.getElem?_replicate]
   rw [if_pos (by omega)]
  have hzr:=hbr.size
  go_wp2_with fail
  refine (rE x.1 x.2.1 x.2.2 _).mono ?_;rintro e w2 ⟨rfl,hb2⟩
  have hown2:=hown.below hb2
  obtain ⟨c0,c1,c2,f0,f1,f2⟩:=ri hlen.symm hown2 hj0
  have hst:=xK (vB hlen.symm hown2 hlt x (qI rfl hx.out))
  clear hlen hj0 h0 h1 h2
  go_wp2
  go_roundw
  case rel=>exact ⟨j+1,by omega,by go_num,hst.out.1,((hbr.trans (hb2.mono hzr)).grown hst.out.2 (by have:=hb2.size;omega) (fun q hq=>by cases hq;exact xO _))⟩
  case measure=>simp [intOf] <;> omega
 obtain rfl:j=xs.length:=by omega
 clear hlen
 go_wp2
 go_ret
 exact ⟨_,rfl,by simpa using hown,hbr⟩
theorem aH.dC {W:World} {g:Nat} {T:TypeId} {u v x y z:Value} (h:aH W g T #[u,v,x,y,z]):W.cell? ⟨g,0,none⟩=some u∧W.cell? ⟨g,1,none⟩=some v∧W.cell? ⟨g,2,none⟩=some x∧W.cell? ⟨g,3,none⟩=some y∧W.cell? ⟨g,4,none⟩=some z:=⟨h.cell 0,h.cell 1,h.cell 2,h.cell 3,h.cell 4⟩
theorem aH.iE {W:World} {g:Nat} {T:TypeId} {u v x y z:Value} (h:aH W g T #[u,v,x,y,z]):W.frozen? ⟨g,0,none⟩=false∧W.frozen? ⟨g,1,none⟩=false∧W.frozen? ⟨g,2,none⟩=false∧W.frozen? ⟨g,3,none⟩=false∧W.frozen? ⟨g,4,none⟩=false∧g<W.heap.size:=⟨h.frz 0,h.frz 1,h.frz 2,h.frz 3,h.frz 4,h.lt⟩
theorem aH.set5 {W:World} {g:Nat} {T:TypeId} {u v x y z:Value} (h:aH W g T #[u,v,x,y,z]) (a b c d e:Value):aH (((((W.setCell ⟨g,0,none⟩ a).setCell ⟨g,1,none⟩ b).setCell ⟨g,2,none⟩ c).setCell ⟨g,3,none⟩ d).setCell ⟨g,4,none⟩ e) g T #[a,b,c,d,e]:=((((h.set 0 a).set 1 b).set 2 c).set 3 d).set 4 e
theorem kH (a b c d:Int) (w:World) :
  Calls Tryz.prog 43 #[.agg #[.int .i64 a,.int .i64 b],.agg #[.int .i64 c,.int .i64 d]] w fun e w'=>e=.returned (.bool (a == c && b == d))∧Below w.heap.size w w':=by
 by_cases h1:a=c <;> by_cases h2:b=d
 all_goals
  go_enter Tryz.func43,Tryz.ntmps43
  go_wp2
  go_ret;exact ⟨cn (by simp [h1,h2]),(by repeat (first | exact xN _ _ | refine aR ?_ _ | refine aS ?_ (by assumption) | refine Below.drew ?_ | refine xM ?_ (by first | exact xO _ | exact Nat.le_add_right _ _ | (simp <;> omega)) _ | refine aL ?_ _))⟩
theorem lN (v:Value) (n:Nat) (k:Int) (w:World) (base:Nat) (hx:Rw.Own EPt w base v (M.cS k n)) (h1:0≤k) (h2:k+3*n≤4000000000000000000) :
  Calls Tryz.prog 46 #[v,.int .i64 k] w fun e w'=>e=.returned (.int .i64 (k+3*n))∧Below w.heap.size w w':=by
 obtain ⟨a,cap,rfl,hm,hm2,hv⟩:=hx.seen
 rw [M.eK] at hm hv ⊢
 go_enter Tryz.func46,Tryz.ntmps46
 go_wp2
 go_loop [1,5] (fun vk vi=>∃ j:Nat,j≤n∧vi=.int .i64 j∧vk=.int .i64 (k+3*j)) (fun _ vi=>n - (intOf vi).toNat)
 case atStart=>exact ⟨0,by omega,rfl,by simp⟩
 case round=>
 obtain ⟨j,hj,rfl,rfl⟩:=hrel
 by_cases hlt:j<n
 ·obtain ⟨g,x,rfl,hg,hx',hcell⟩:=hv j hlt
  rw [M.oj hlt] at hx'
  obtain rfl:=Option.some.inj hx'.out
  have e0:w.cell? ⟨g,j*3,none⟩=some (.int .i64 (k+3*j)):=hcell 0 _ rfl
  have e1:w.cell? ⟨g,j*3+1,none⟩=some (.int .i64 (k+3*j+1)):=hcell 1 _ rfl
  have e2:w.cell? ⟨g,j*3+2,none⟩=some (.int .i64 (k+3*j+1+1)):=hcell 2 _ rfl
  clear hv hcell
  go_wp2
  go_round
  case rel=>exact ⟨j+1,by omega,by go_num,by congr 1;omega⟩
  case measure=>simp [intOf];omega
 obtain rfl:j=n:=by omega
 clear hv
 go_wp2
 go_ret
 exact ⟨rfl,(by repeat (first | exact xN _ _ | refine aR ?_ _ | refine aS ?_ (by assumption) | refine Below.drew ?_ | refine xM ?_ (by first | exact xO _ | exact Nat.le_add_right _ _ | (simp <;> omega)) _ | refine aL ?_ _))⟩
theorem gY (a b m d:Int) (v:Value) (n:Nat) (k:Int) (w:World) (base:Nat) (hx:Rw.Own EPt w base v (M.cS k n)) (h1:0≤k) (h2:k+3*n≤4000000000000000000) :
  Calls Tryz.prog 26 #[.agg #[.int .i64 a,.int .i64 b,v,.int .i64 m,.int .i64 d],.int .i64 k] w fun e w'=>e=.returned (.int .i64 (k+3*n))∧Below w.heap.size w w':=by
 have HH:=fun W h=>lN v n k W base h h1 h2
 obtain ⟨wc,hw3,C,B⟩:=gF w #[.int .i64 a,.int .i64 b,v,.int .i64 m,.int .i64 d] 47
 have hxc:=xK (hx.below B)
 have ⟨c0,c1,c2,c3,c4⟩:=C.dC
 have hk:0≤k+3*(n:Int):=by omega
 obtain ⟨A,cap,rfl,-,-⟩:=hx.seen
 generalize k+3*(n:Int)=K at *
 generalize (M.cS k n).length=L at *
 replace HH:=xK HH
 go_enter Tryz.func26,Tryz.ntmps26
 go_wp2_with (go_at_call 46;(refine (HH.out _ hxc.out).mono ?_);rintro e w4 ⟨rfl,hb4⟩;(replace B:=B.trans (hb4.mono B.size)))
 go_ret
 exact ⟨rfl,B⟩
theorem gh (a b m d:Int) (v:Value) (xs:List Pt) (k:Int) (w:World) (base:Nat) (hx:Rw.Own EPt w base v xs) (h1:0≤k) (h2:k+3*xs.length≤4000000000000000000) :
  Calls Tryz.prog 25 #[.agg #[.int .i64 a,.int .i64 b,v,.int .i64 m,.int .i64 d],.int .i64 k] w fun e w'=>e=.returned (.int .i64 (k+3*xs.length))∧Rw.Own EPt w' base v (M.cS k xs.length)∧w.grownBy w' v.ownBlock:=by
 have HH:=fun W h=>gj v xs k W base h h1 h2
 obtain ⟨wc,hw3,C,B⟩:=gF w #[.int .i64 a,.int .i64 b,v,.int .i64 m,.int .i64 d] 47
 have hxc:=xK (hx.below B)
 have hg0:=xK (cF B v.ownBlock)
 have ⟨c0,c1,c2,c3,c4⟩:=C.dC
 obtain ⟨A,cap,rfl,-,-⟩:=hx.seen
 generalize M.cS k xs.length=ys at *
 generalize k+3*(xs.length:Int)=K at *
 generalize xs.length=L at *
 replace HH:=xK HH
 go_enter Tryz.func25,Tryz.ntmps25
 go_wp2_with (go_at_call 15;(refine (HH.out _ hxc.out).mono ?_);rintro e w4 ⟨rfl,ho,hg⟩;(replace hg:=xK (dE hg0.out hg));(replace ho:=xK ho))
 go_ret
 exact ⟨rfl,ho.out,hg.out⟩
theorem ie (a b n d:Int) (v u:Value) (xs:List Pt) (w:World) (h1 h2:Nat) (hx:Rw.Seen EPt w h1 v xs) (hy:Rw.Seen EPt w h2 u xs) (hh1:h1≤w.heap.size) (hh2:h2≤w.heap.size) :
  Calls Tryz.prog 22 #[.agg #[.int .i64 a,.int .i64 b,v,.int .i64 n,.int .i64 d],.agg #[.int .i64 a,.int .i64 b,u,.int .i64 n,.int .i64 d]] w fun e w'=>e=.returned (.bool true)∧Below w.heap.size w w':=by
 have EQ:=fun W p q r s=>jW v u xs xs W h1 h2 p q r s
 have hd2:decide (xs=xs)=true:=by simp
 rw [hd2] at EQ
 clear hd2
 obtain ⟨wc,hw3,C,D,B⟩:=iY w #[.int .i64 a,.int .i64 b,v,.int .i64 n,.int .i64 d] 47 #[.int .i64 a,.int .i64 b,u,.int .i64 n,.int .i64 d] 47
 have HX:=xK (And.intro (hx.below (B.mono hh1)) (hy.below (B.mono hh2)))
 have HH:=xK (And.intro (Nat.le_trans hh1 B.size) (Nat.le_trans hh2 B.size))
 have ⟨c0,c1,c2,c3,c4⟩:=C.dC
 have ⟨d0,d1,d2,d3,d4⟩:=D.dC
 obtain ⟨A,cap,rfl,-,-⟩:=hx
 obtain ⟨A2,cap2,rfl,-,-⟩:=hy
 generalize xs.length=L at *
 replace EQ:=xK EQ
 clear hh1 hh2
 go_enter Tryz.func22,Tryz.ntmps22
 go_wp2_with first
  | (go_at_call 42;(refine (qO _ _ _ _ _).mono ?_);rintro e w4 ⟨rfl,hb4⟩;(replace HX:=xK (And.intro (HX.out.1.below (hb4.mono HH.out.1)) (HX.out.2.below (hb4.mono HH.out.2))));(replace HH:=xK (And.intro (Nat.le_trans HH.out.1 hb4.size) (Nat.le_trans HH.out.2 hb4.size)));(replace C:=C.keep hb4);(replace D:=D.keep hb4);(replace B:=B.trans (hb4.mono B.size));(have ⟨c0,c1,c2,c3,c4⟩:=C.dC);(have ⟨d0,d1,d2,d3,d4⟩:=D.dC))
  | (go_at_call 14;(refine (EQ.out _ HX.out.1 HX.out.2 HH.out.1 HH.out.2).mono ?_);rintro e w5 ⟨rfl,hb5⟩;(replace C:=C.keep hb5);(replace D:=D.keep hb5);(replace B:=B.trans (hb5.mono B.size));(have ⟨c0,c1,c2,c3,c4⟩:=C.dC);(have ⟨d0,d1,d2,d3,d4⟩:=D.dC))
  | (go_at_call 43;(refine (kH _ _ _ _ _).mono ?_);rintro e w6 ⟨rfl,hb6⟩;(replace B:=B.trans (hb6.mono B.size)))
 go_ret
 exact ⟨rfl,B⟩
theorem Rw.Own.jy {α:Type} {E:Rw.Enc α} {w:World} {base k i:Nat} {v:Value} {xs:List α} (h:Rw.Own E w base v xs) (hk:k<base) (x:Value):Rw.Own E (w.setCell ⟨k,i,none⟩ x) base v xs:=
 h.kept (Gr.set (World.grownBy.refl _ _) _ _) (fun g hg e=>by
  injection hg with hg
  have:=(h.lt _ e).1
  omega)
end
section
open Go.RowKit
namespace M
theorem jx {a b:Int} {l:List Pt} (h:ch a b l=true):good a b=true∧1≤l.length∧l.length≤4∧∀ p ∈ l,bR a b p.1 p.2.1 p.2.2=true:=by
 unfold ch at h
 rw [Bool.and_eq_true,Bool.and_eq_true] at h
 obtain ⟨⟨h1,h2⟩,h3⟩:=h
 unfold ins at h2
 simp only [Bool.and_eq_true,decide_eq_true_eq] at h2
 exact ⟨h1,by omega,by omega,List.all_eq_true.1 h3⟩
theorem vm {x:Int} (h1:-409600000≤x) (h2:x≤409600000):decide (pn x > 0)=decide (x > 0):=by
 obtain ⟨-,-,-,-,h3,h4,-,-,-⟩:=oJ (bI h1 h2)
 have:pn x > 0 ↔ x > 0:=by
  generalize 4096 / pd x=t at *
  generalize pn x=n at *
  subst h3
  constructor
  ·intro h;exact Int.mul_pos h (by omega)
  intro h
  rcases Int.lt_or_le 0 n with q | q
  ·exact q
  have:=Int.mul_nonpos_of_nonpos_of_nonneg q (show 0≤t by omega)
  omega
 simp only [this]
theorem uH {s:Sp} (h:okS s):decide (in1 s > 0)=decide (slo s > 0):=by
 cases s with
 | none=>rfl
 | some p=>
 obtain ⟨-,h1,h2⟩:=fE h
 have h3:=(fE h).1
 exact vm h1 (Int.le_trans h3 h2)
theorem ph {a b:Int} {l:List Pt}:okS (ck a b l):=by
 cases h:mOk a b l
 ·rw [li h];exact eJ
 rw [j6 h];exact i7 (jw h) _
end M
end
section
open Go.RowKit Go.Shelf
theorem vQ (b i:Nat):(⟨b,0,none⟩:Addr).add i=⟨b,i,none⟩:=by unfold Addr.add;split <;> simp_all
theorem eO.from' {w:World} {g:Nat} {l:List Pt} (h:eO w g l):Rw.From EPt w (some ⟨g,0,none⟩) l:=by
 intro j u hu
 refine ⟨_,rfl,?_⟩
 rw [vQ]
 have hlt:j<(l.flatMap EPt.cells).length:=(List.getElem?_eq_some_iff.1 hu).1
 rw [Rw.cI] at hlt
 have hlt:j<l.length*3:=hlt
 obtain ⟨p,hp⟩:∃ p,l[j / 3]?=some p:=⟨_,List.getElem?_eq_getElem (by omega)⟩
 have hi:j % 3<EPt.k:=Nat.mod_lt _ (by decide)
 have hf:=Rw.flat_get EPt l (j / 3) (j % 3) p hp hi
 have hj:j / 3*EPt.k+j % 3=j:=by show j / 3*3+j % 3=j;omega
 rw [hj,hu] at hf
 obtain ⟨h1,h2,h3⟩:=h _ _ hp
 have h4:j % 3=0∨j % 3=1∨j % 3=2:=by omega
 rcases h4 with q | q | q
 ·rw [q] at hf
  obtain rfl:=Option.some.inj hf
  have e:j / 3*3=j:=by omega
  rw [e] at h1
  exact h1
 ·rw [q] at hf
  obtain rfl:=Option.some.inj hf
  have e:j / 3*3+1=j:=by omega
  rw [e] at h2
  exact h2
 rw [q] at hf
 obtain rfl:=Option.some.inj hf
 have e:j / 3*3+2=j:=by omega
 rw [e] at h3
 exact h3
theorem dr.from' {w:World} {v:Value} {l:List Pt} (h:dr w v l):∃ A cap,v=.slice A l.length cap∧∀ w',Below w.heap.size w w'→Rw.From EPt w' A l:=by
 obtain ⟨a,cap,rfl,h⟩:=h
 refine ⟨a,cap,rfl,fun w' hb=>?_⟩
 rcases h with rfl | ⟨g,rfl,h⟩
 ·exact Rw.From.nil EPt w' a
 exact (h.below hb).from'
theorem ww {w:World} {base:Nat} (hb:base≤w.heap.size):Rw.Own EPt (w.alloc (.cells #[] 57)) base (.slice (some ⟨w.heap.size,0,none⟩) 0 0) []:=Rw.Own.qY EPt w base hb
theorem nz (xs:List Pt) (v:Value) (w:World) (hx:dr w v xs) (hl:xs.length≤1000000000) :
  Calls Tryz.prog 36 #[v] w fun e w'=>∃ v',e=.returned v'∧Rw.Own EPt w' w.heap.size v' xs∧Below w.heap.size w w':=by
 obtain ⟨A,cap,rfl,hf⟩:=hx.from'
 clear hx
 have hf:=xK hf
 cases A with
 | none=>
  have h0:xs=[]:=by
   cases xs with
   | nil=>rfl
   | cons p l=>
   obtain ⟨ad,h,-⟩:=hf.out w (xN _ _) 0 (.int .i64 p.1) rfl
   cases h
  subst h0
  simp only [List.length_nil]
  clear hf hl
  have he:∀ W:World,(binOp .eql 31 (.slice none 0 cap) (.slice none 0 0)).run Tryz.prog W=.ok (.bool true) W:=fun _=>rfl
  go_enter Tryz.func36,Tryz.ntmps36
  go_wp2
  go_ret
  exact ⟨_,rfl,Rw.Own.nil EPt _ _,xN _ _⟩
 | some ad=>
 have he:∀ W:World,(binOp .eql 31 (.slice (some ad) xs.length cap) (.slice none 0 0)).run Tryz.prog W=.ok (.bool false) W:=fun _=>rfl
 go_enter Tryz.func36,Tryz.ntmps36
 go_wp2_with (at_builtin;refine Rw.push sQ (W:=w) w.heap.size xs [] _ (some ad) _ _ (by rfl) (by rfl) (.tmp 5) (.tmp 6) (by rfl) (by rfl) (by rfl) (hf.out _ (by repeat (first | exact xN _ _ | refine aR ?_ _ | refine aS ?_ (by assumption) | refine Below.drew ?_ | refine xM ?_ (by first | exact xO _ | exact Nat.le_add_right _ _ | (simp <;> omega)) _ | refine aL ?_ _))) (ww (xO _)) (by repeat (first | exact xN _ _ | refine aR ?_ _ | refine aS ?_ (by assumption) | refine Below.drew ?_ | refine xM ?_ (by first | exact xO _ | exact Nat.le_add_right _ _ | (simp <;> omega)) _ | refine aL ?_ _)) (by simp) (by simp;omega) ?_;rintro v1 w1 hown1 hb1)
 go_ret
 exact ⟨_,rfl,hown1,hb1⟩
theorem aH.jd {α:Type} {E:Rw.Enc α} {w w':World} {g base:Nat} {T:TypeId} {xs:Array Value} {v:Value} {ps:List α} (hv:aH w g T xs) (ho:Rw.Own E w base v ps) (hg:w.grownBy w' v.ownBlock) (hT:T≠E.t):aH w' g T xs:=by
 refine (hg.block g hv.lt fun e=>?_).trans hv
 rcases ho.2 with ⟨rfl,-⟩ | ⟨g',cap,cur,rfl,-,hh,-⟩
 ·simp [Value.ownBlock] at e
 simp only [Value.ownBlock,Option.some.injEq] at e
 subst e
 unfold aH at hv
 rw [hv] at hh
 injection hh with hh
 injection hh with _ h2
 exact hT h2
theorem Rw.From.keep {α:Type} {E:Rw.Enc α} {w w':World} {H:Nat} {ys:List α} (h:Rw.From E w (some ⟨H,0,none⟩) ys) (hH:H<w.heap.size) (hb:Below w.heap.size w w'):Rw.From E w' (some ⟨H,0,none⟩) ys:=by
 intro j u hu
 obtain ⟨ad,h1,h2⟩:=h j u hu
 obtain rfl:=Option.some.inj h1
 have hblk:((⟨H,0,none⟩:Addr).add j).block=H:=by unfold Addr.add;split <;> rfl
 exact ⟨_,rfl,(hb.cell (p:=(⟨H,0,none⟩:Addr).add j) (by rw [hblk];exact hH)).trans h2⟩
structure KpJ (W0:World) (ps:List Pt) (p:Pt) (T:TypeId) (ret:Value) (zs us:Array Value) (l:Nat→Bool) (v:Nat→Value) (w:World):Prop where
 B:Below W0.heap.size W0 w
 c:l 2=true→l 5=false→Rw.Own EPt w W0.heap.size (v 2) ps
 t:l 4=true→l 5=false→∃ H,v 4=.slice (some ⟨H,0,none⟩) 1 1∧H<w.heap.size∧Rw.From EPt w (some ⟨H,0,none⟩) [p]
 a:l 5=true→l 6=false→Rw.Own EPt w W0.heap.size (v 5) (ps ++ [p])
 r:l 6=true→v 6=ret
 n:l 10=true→l 11=false→∃ H,v 10=.pointer (some ⟨H,0,none⟩)∧W0.heap.size≤H∧aH w H T zs
 s:l 11=true→∃ H,v 10=.pointer (some ⟨H,0,none⟩)∧W0.heap.size≤H∧aH w H T us
namespace KpJ
variable {W0:World} {ps:List Pt} {p:Pt} {T:TypeId} {ret:Value} {zs us:Array Value} {l l':Nat→Bool} {v v':Nat→Value} {w w':World}
theorem start:KpJ W0 ps p T ret zs us (fun _=>false) v { W0 with drawn:=W0.drawn+1 } where
 B:=(xN _ _).drew
 c:=fun h=>by cases h
 t:=fun h=>by cases h
 a:=fun h=>by cases h
 r:=fun h=>by cases h
 n:=fun h=>by cases h
 s:=fun h=>by cases h
theorem congr (h:∀ i ∈ [2,4,5,6,10,11],l i=l' i∧v i=v' i) (j:KpJ W0 ps p T ret zs us l v w):KpJ W0 ps p T ret zs us l' v' w:=by
 have h1:=h 2 (by simp)
 have h2:=h 4 (by simp)
 have h3:=h 5 (by simp)
 have h4:=h 6 (by simp)
 have h5:=h 10 (by simp)
 have h6:=h 11 (by simp)
 obtain ⟨jB,jc,jt,ja,jr,jn,js⟩:=j
 rw [h1.1,h1.2,h3.1] at jc
 rw [h2.1,h2.2,h3.1] at jt
 rw [h3.1,h3.2,h4.1] at ja
 rw [h4.1,h4.2] at jr
 rw [h5.1,h5.2,h6.1] at jn
 rw [h6.1,h5.2] at js
 exact ⟨jB,jc,jt,ja,jr,jn,js⟩
theorem keep (j:KpJ W0 ps p T ret zs us l v w) (hb:Below w.heap.size w w'):KpJ W0 ps p T ret zs us l v w' where
 B:=j.B.trans (hb.mono j.B.size)
 c:=fun h1 h2=>(j.c h1 h2).below hb
 t:=fun h1 h2=>by
  obtain ⟨H,e,hH,hf⟩:=j.t h1 h2
  exact ⟨H,e,Nat.lt_of_lt_of_le hH hb.size,hf.keep hH hb⟩
 a:=fun h1 h2=>(j.a h1 h2).below hb
 r:=j.r
 n:=fun h1 h2=>by
  obtain ⟨H,e,hH,hf⟩:=j.n h1 h2
  exact ⟨H,e,hH,hf.keep hb⟩
 s:=fun h1=>by
  obtain ⟨H,e,hH,hf⟩:=j.s h1
  exact ⟨H,e,hH,hf.keep hb⟩
theorem lit (j:KpJ W0 ps p T ret zs us l v w):KpJ W0 ps p T ret zs us (Rg.upd l 4) (Rg.dM v 4 (.slice (some ⟨w.heap.size,0,none⟩) 1 1)) (w.alloc (.cells #[.int .i64 p.1,.int .i64 p.2.1,.int .i64 p.2.2] 57)) where
 B:=(j.keep (bA w _)).B
 c:=(j.keep (bA w _)).c
 t:=fun _ _=>⟨w.heap.size,rfl,by simp,Rw.From.lit EPt w p _ rfl⟩
 a:=(j.keep (bA w _)).a
 r:=j.r
 n:=(j.keep (bA w _)).n
 s:=(j.keep (bA w _)).s
theorem put {u:Value} {H:Nat} (j:KpJ W0 ps p T ret zs us l v w) (h2:l 2=true) (h4:l 4=true) (h5:l 5=true) (h6:l 6=true) (h10:v 10=.pointer (some ⟨H,0,none⟩)) (hH:W0.heap.size≤H) (hV:aH w' H T us) (hB:Below W0.heap.size W0 w'):KpJ W0 ps p T ret zs us (Rg.upd l 11) (Rg.dM v 11 u) w' where
 B:=hB
 c:=fun _ h=>by
  have h:l 5=false:=h
  rw [h5] at h;cases h
 t:=fun _ h=>by
  have h:l 5=false:=h
  rw [h5] at h;cases h
 a:=fun _ h=>by
  have h:l 6=false:=h
  rw [h6] at h;cases h
 r:=j.r
 n:=fun _ h=>by cases h
 s:=fun _=>⟨H,h10,hH,hV⟩
end KpJ
structure KqJ (W0:World) (ps:List Pt) (p:Pt) (l:Nat→Bool) (v:Nat→Value) (w:World):Prop where
 B:Below W0.heap.size W0 w
 e:l 0=true→l 2=false→Rw.Own EPt w W0.heap.size (v 0) []
 c:l 2=true→l 5=false→Rw.Own EPt w W0.heap.size (v 2) ps
 t:l 4=true→l 5=false→∃ H,v 4=.slice (some ⟨H,0,none⟩) 1 1∧H<w.heap.size∧W0.heap.size≤H∧Rw.From EPt w (some ⟨H,0,none⟩) [p]∧(l 0=true→l 2=false→(v 0).ownBlock≠some H)
 a:l 5=true→Rw.Own EPt w W0.heap.size (v 5) (ps ++ [p])
 m:l 6=true→Rw.Own EPt w W0.heap.size (v 6) (ps ++ [p])
namespace KqJ
variable {W0:World} {ps:List Pt} {p:Pt} {l l':Nat→Bool} {v v':Nat→Value} {w w':World}
theorem start:KqJ W0 ps p (fun _=>false) v { W0 with drawn:=W0.drawn+1 } where
 B:=(xN _ _).drew
 e:=fun h=>by cases h
 c:=fun h=>by cases h
 t:=fun h=>by cases h
 a:=fun h=>by cases h
 m:=fun h=>by cases h
theorem congr (h:∀ i ∈ [0,2,4,5,6],l i=l' i∧v i=v' i) (j:KqJ W0 ps p l v w):KqJ W0 ps p l' v' w:=by
 have h1:=h 0 (by simp)
 have h2:=h 2 (by simp)
 have h3:=h 4 (by simp)
 have h4:=h 5 (by simp)
 have h5:=h 6 (by simp)
 obtain ⟨jB,je,jc,jt,ja,jm⟩:=j
 rw [h1.1,h1.2,h2.1] at je
 rw [h2.1,h2.2,h4.1] at jc
 rw [h3.1,h3.2,h4.1,h1.1,h1.2,h2.1] at jt
 rw [h4.1,h4.2] at ja
 rw [h5.1,h5.2] at jm
 exact ⟨jB,je,jc,jt,ja,jm⟩
theorem keep (j:KqJ W0 ps p l v w) (hb:Below w.heap.size w w'):KqJ W0 ps p l v w' where
 B:=j.B.trans (hb.mono j.B.size)
 e:=fun h1 h2=>(j.e h1 h2).below hb
 c:=fun h1 h2=>(j.c h1 h2).below hb
 t:=fun h1 h2=>by
  obtain ⟨H,e,hH,h0,hf,hn⟩:=j.t h1 h2
  exact ⟨H,e,Nat.lt_of_lt_of_le hH hb.size,h0,hf.keep hH hb,hn⟩
 a:=fun h1=>(j.a h1).below hb
 m:=fun h1=>(j.m h1).below hb
theorem lit (j:KqJ W0 ps p l v w):KqJ W0 ps p (Rg.upd l 4) (Rg.dM v 4 (.slice (some ⟨w.heap.size,0,none⟩) 1 1)) (w.alloc (.cells #[.int .i64 p.1,.int .i64 p.2.1,.int .i64 p.2.2] 57)) where
 B:=(j.keep (bA w _)).B
 e:=(j.keep (bA w _)).e
 c:=(j.keep (bA w _)).c
 t:=fun _ _=>⟨w.heap.size,rfl,by simp,j.B.size,Rw.From.lit EPt w p _ rfl,fun h1 h2 q=>by
  have:=((j.e h1 h2).lt _ q).2
  omega⟩
 a:=(j.keep (bA w _)).a
 m:=(j.keep (bA w _)).m
theorem take (j:KqJ W0 ps p l v w) (h5:l 5=true):KqJ W0 ps p (Rg.upd l 6) (Rg.dM v 6 (v 5)) w where
 B:=j.B
 e:=j.e
 c:=j.c
 t:=j.t
 a:=j.a
 m:=fun _=>j.a h5
end KqJ
namespace M
noncomputable def eF (a b:Int) (l:List Pt):Bool:=(ck a b l).isSome && decide (0<slo (ck a b l))
noncomputable def cJ (a b:Int) (l:List Pt):Bool:=ch a b l && eF a b l
noncomputable def mcN (a b:Int) (l:List Pt):Int:=in1 (ck a b l)
noncomputable def mcD (a b:Int) (l:List Pt):Int:=in2 (ck a b l)
end M
theorem slV {w:World} {v:Value} {l:List Pt} (h:dr w v l):∃ sa cap,v=.slice sa l.length cap:=by
 obtain ⟨a,cap,e,-⟩:=h
 exact ⟨a,cap,e⟩
theorem oO (a b:Int) (v:Value) (l:List Pt) (w:World) (hx:dr w v l) (hn:l.length≤4000000) :
  Calls Tryz.prog 60 #[.agg #[.int .i64 a,.int .i64 b],v] w fun e w'=>e=.returned (.bool (M.ch a b l))∧Below w.heap.size w w':=by
 obtain ⟨sa,cap,rfl⟩:=slV hx
 have PL:=xK fun W h=>sc a b (.slice sa l.length cap) l W h hn
 obtain ⟨wc,hw3,C,B⟩:=gF w #[.int .i64 a,.int .i64 b] 29
 have hxc:=xK (hx.below B)
 have C_c0:=C.box.c0
 have C_c1:=C.box.c1
 generalize M.ch a b l=p at *
 generalize l.length=L at *
 clear hx
 go_enter Tryz.func60,Tryz.ntmps60
 go_wp2_with (go_at_call 32;(refine (PL.out _ hxc.out).mono ?_);rintro e w4 ⟨rfl,hb4⟩;(replace B:=B.trans (hb4.mono B.size)))
 go_ret
 exact ⟨rfl,B⟩
structure McS (w:World) (gc gf gr base:Nat) (a b:Int) (T:TypeId) (fs zs:Array Value) (W:World):Prop where
 B:Below w.heap.size w W
 C:aH W gc 29 #[.int .i64 a,.int .i64 b]
 F:aH W gf T fs
 R:aH W gr 47 zs
 hc:gc≠gr
 hf:gf≠gr
 hr:w.heap.size≤gr
 hl:gr<base
 hb:base≤W.heap.size
theorem McS.keep {w:World} {gc gf gr base:Nat} {a b:Int} {T:TypeId} {fs zs:Array Value} {W W':World} (h:McS w gc gf gr base a b T fs zs W) (hb:Below W.heap.size W W'):McS w gc gf gr base a b T fs zs W':=
 ⟨h.B.trans (hb.mono h.B.size),h.C.keep hb,h.F.keep hb,h.R.keep hb,h.hc,h.hf,h.hr,h.hl,Nat.le_trans h.hb hb.size⟩
theorem McS.grown {w:World} {gc gf gr base:Nat} {a b:Int} {T:TypeId} {fs zs:Array Value} {W W':World} (h:McS w gc gf gr base a b T fs zs W) {v:Value} {ps:List Pt} (ho:Rw.Own EPt W base v ps) (hg:W.grownBy W' v.ownBlock) (hc:(29:TypeId)≠EPt.t) (hf:T≠EPt.t) (hR:(47:TypeId)≠EPt.t):McS w gc gf gr base a b T fs zs W':=
 ⟨h.B.grown hg h.B.size (fun k hk=>Nat.le_trans h.hr (Nat.le_of_lt (Nat.lt_of_lt_of_le h.hl (ho.lt k hk).1))),h.C.jd ho hg hc,h.F.jd ho hg hf,h.R.jd ho hg hR,h.hc,h.hf,h.hr,h.hl,Nat.le_trans h.hb hg.size⟩
theorem kR (w:World) (p:Addr) (x:Value):(w.setCell p x).heap.size=w.heap.size:=by simp [World.setCell]
theorem McS.put {w:World} {gc gf gr base:Nat} {a b:Int} {T:TypeId} {fs:Array Value} {x1 x2 x3 x4 x5:Value} {W:World} (h:McS w gc gf gr base a b T fs #[x1,x2,x3,x4,x5] W) (y1 y2 y3 y4 y5:Value):McS w gc gf gr base a b T fs #[y1,y2,y3,y4,y5] (((((W.setCell ⟨gr,0,none⟩ y1).setCell ⟨gr,1,none⟩ y2).setCell ⟨gr,2,none⟩ y3).setCell ⟨gr,3,none⟩ y4).setCell ⟨gr,4,none⟩ y5):=
 ⟨xM (xM (xM (xM (xM h.B h.hr _) h.hr _) h.hr _) h.hr _) h.hr _,((((h.C.other h.hc _).other h.hc _).other h.hc _).other h.hc _).other h.hc _,((((h.F.other h.hf _).other h.hf _).other h.hf _).other h.hf _).other h.hf _,h.R.set5 ..,h.hc,h.hf,h.hr,h.hl,by simp only [kR];exact h.hb⟩
theorem Rw.Own.wB {α:Type} {E:Rw.Enc α} {w:World} {base k:Nat} {v:Value} {xs:List α} (h:Rw.Own E w base v xs) (hk:k<base) (y1 y2 y3 y4 y5:Value):Rw.Own E (((((w.setCell ⟨k,0,none⟩ y1).setCell ⟨k,1,none⟩ y2).setCell ⟨k,2,none⟩ y3).setCell ⟨k,3,none⟩ y4).setCell ⟨k,4,none⟩ y5) base v xs:=
 ((((h.jy hk _).jy hk _).jy hk _).jy hk _).jy hk _
def eN (i j:Nat) (w:World) (gc gf gr base:Nat) (a b n d:Int) (T:TypeId) (fs:Array Value) (l:List Pt) (k:Nat) (v:Nat→Value) (W:World):Prop:=match k with
 | 0=>McS w gc gf gr base a b T fs #[.int .i64 0,.int .i64 0,.slice none 0 0,.int .i64 0,.int .i64 0] W
 | 1=>McS w gc gf gr base a b T fs #[.int .i64 0,.int .i64 0,.slice none 0 0,.int .i64 0,.int .i64 0] W∧Rw.Own EPt W base (v i) l
 | 2=>(McS w gc gf gr base a b T fs #[.int .i64 0,.int .i64 0,.slice none 0 0,.int .i64 0,.int .i64 0] W∧Rw.Own EPt W base (v i) l)∧v j=.agg #[.int .i64 a,.int .i64 b,v i,.int .i64 n,.int .i64 d]
 | _=>(McS w gc gf gr base a b T fs #[.int .i64 a,.int .i64 b,v i,.int .i64 n,.int .i64 d] W∧Rw.Own EPt W base (v i) l)∧v j=.agg #[.int .i64 a,.int .i64 b,v i,.int .i64 n,.int .i64 d]
theorem eN.congr {i j:Nat} {w:World} {gc gf gr base:Nat} {a b n d:Int} {T:TypeId} {fs:Array Value} {l:List Pt} {k:Nat} {v v':Nat→Value} {W:World} (h1:v i=v' i) (h2:v j=v' j) (h:eN i j w gc gf gr base a b n d T fs l k v W):eN i j w gc gf gr base a b n d T fs l k v' W:=by
 unfold eN at *
 rw [←h1,←h2]
 exact h
theorem eN.st {i j:Nat} {w:World} {gc gf gr base:Nat} {a b n d:Int} {T:TypeId} {fs:Array Value} {l:List Pt} {k:Nat} {v:Nat→Value} {W:World} (h:eN i j w gc gf gr base a b n d T fs l k v W):∃ zs,McS w gc gf gr base a b T fs zs W:=by
 match k,h with
 | 0,h=>exact ⟨_,h⟩
 | 1,h=>exact ⟨_,h.1⟩
 | 2,h=>exact ⟨_,h.1.1⟩
 | _+3,h=>exact ⟨_,h.1.1⟩
theorem eN.store {i j:Nat} {w:World} {gc gf gr base:Nat} {a b n d:Int} {T:TypeId} {fs:Array Value} {l:List Pt} {v v':Nat→Value} {W:World} {u:Value} (h:eN i j w gc gf gr base a b n d T fs l 2 v W) (hu:u=v i) (h1:v i=v' i) (h2:v j=v' j):eN i j w gc gf gr base a b n d T fs l 3 v' (((((W.setCell ⟨gr,0,none⟩ (.int .i64 a)).setCell ⟨gr,1,none⟩ (.int .i64 b)).setCell ⟨gr,2,none⟩ u).setCell ⟨gr,3,none⟩ (.int .i64 n)).setCell ⟨gr,4,none⟩ (.int .i64 d)):=by
 subst hu
 exact eN.congr h1 h2 (show eN i j w gc gf gr base a b n d T fs l 3 v _ from ⟨⟨h.1.1.put ..,h.1.2.wB h.1.1.hl ..⟩,h.2⟩)
theorem mcNo {a b:Int} {l:List Pt} {w:World} {base:Nat} (h:M.eF a b l=false) (n d:Int):(Value.tuple #[.agg #[.int .i64 0,.int .i64 0,.slice none 0 0,.int .i64 0,.int .i64 0],.bool false])=.tuple #[.agg #[.int .i64 (M.pick (M.eF a b l) a),.int .i64 (M.pick (M.eF a b l) b),.slice none 0 0,.int .i64 (M.pick (M.eF a b l) n),.int .i64 (M.pick (M.eF a b l) d)],.bool (M.eF a b l)]∧Rw.Own EPt w base (.slice none 0 0) (if M.eF a b l=true then l else []):=by
 rw [h]
 exact ⟨rfl,Rw.Own.nil EPt _ _⟩
theorem ge (a b:Int) (v:Value) (l:List Pt) (w:World) (hx:dr w v l) (hg:M.good a b=true) (h1:1≤l.length) (hn:l.length≤4) (hp:∀ p ∈ l,M.bR a b p.1 p.2.1 p.2.2=true) :
  Calls Tryz.prog 45 #[.agg #[.int .i64 a,.int .i64 b],v] w fun e w'=>∃ v',e=.returned (.tuple #[.agg #[.int .i64 (M.pick (M.eF a b l) a),.int .i64 (M.pick (M.eF a b l) b),v',.int .i64 (M.pick (M.eF a b l) (M.mcN a b l)),.int .i64 (M.pick (M.eF a b l) (M.mcD a b l))],.bool (M.eF a b l)])∧Rw.Own EPt w' w.heap.size v' (if M.eF a b l=true then l else [])∧Below w.heap.size w w':=by
 obtain ⟨sa,cap,rfl⟩:=slV hx
 have RG:=fun W h=>nL a b (.slice sa l.length cap) l W h hg h1 hn hp
 have CL:=xK (fun w (h:dr w (.slice sa l.length cap) l)=>nz l (.slice sa l.length cap) w h (by omega))
 have hno:=fun W base h=>mcNo (a:=a) (b:=b) (l:=l) (w:=W) (base:=base) h (M.mcN a b l) (M.mcD a b l)
 have hok:M.eF a b l=((M.ck a b l).isSome && decide (0<M.slo (M.ck a b l))):=rfl
 have hN:(M.ck a b l).isSome=true→M.mcN a b l=M.fN (M.fmk (M.slo (M.ck a b l)) 4096)∧M.mcD a b l=M.fD (M.fmk (M.slo (M.ck a b l)) 4096):=by
  unfold M.mcN M.mcD
  cases M.ck a b l with
  | none=>intro h;cases h
  | some q=>intro _;exact ⟨rfl,rfl⟩
 have hbd:(M.ck a b l).isSome=true→-409600000≤M.slo (M.ck a b l)∧M.slo (M.ck a b l)≤409600000:=by
  have h3:=M.ph (a:=a) (b:=b) (l:=l)
  cases hq:M.ck a b l with
  | none=>intro h;cases h
  | some q=>
  intro _
  rw [hq] at h3
  obtain ⟨h4,h5,h6⟩:=M.fE h3
  exact ⟨h5,Int.le_trans h4 h6⟩
 generalize M.mcN a b l=n at *
 generalize M.mcD a b l=d at *
 generalize M.eF a b l=ok at *
 generalize M.ck a b l=rs at *
 generalize rs.isSome=fl at *
 generalize M.slo rs=lo at *
 generalize M.shi rs=hh at *
 replace RG:=xK RG
 replace hno:=xK hno
 obtain ⟨wc,hw3,C,R,B⟩:=iY w #[.int .i64 a,.int .i64 b] 29 #[.int .i64 0,.int .i64 0,.slice none 0 0,.int .i64 0,.int .i64 0] 47
 have hxc:=xK (hx.below B)
 have Hx:=xK hx
 have C_c0:=C.box.c0
 have C_c1:=C.box.c1
 have hzz:w.heap.size+2≤wc.heap.size:=by have:=R.lt;omega
 have hcap:=xK hn
 clear hg hp hx h1 hn
 cases fl with
 | false=>
  obtain rfl:ok=false:=hok
  have hfin:=fun W=>hno.out W w.heap.size rfl
  replace hfin:=xK hfin
  clear hN hbd hno CL
  go_enter Tryz.func45,Tryz.ntmps45
  go_wp2_with (go_at_call 35;(refine (RG.out _ hxc.out).mono ?_);rintro e w4 ⟨rfl,hb4⟩;(have Ba:=(xN w4.heap.size w4).alloc (xO _) (.cells #[.int .i64 lo,.int .i64 hh] 68));(replace B:=(B.trans (hb4.mono B.size)).trans (Ba.mono (Nat.le_trans B.size hb4.size)));(replace R:=(R.keep hb4).keep Ba);(have ⟨r0,r1,r2,r3,r4⟩:=R.dC);(have ⟨r5,r6,r7,r8,r9,_⟩:=R.iE))
  exact bodyPost_ret (v:=.tuple #[.agg #[.int .i64 0,.int .i64 0,.slice none 0 0,.int .i64 0,.int .i64 0],.bool false]) (by simp [results,Tryz.results45,go_sem, *]) rfl (⟨.slice none 0 0,by rw [(hfin.out w).1],(hfin.out _).2,xM (xM (xM (xM (xM B (by simp) _) (by simp) _) (by simp) _) (by simp) _) (by simp) _⟩)
 | true=>
 by_cases hpos:0<lo
 ·have hd:decide (lo≤0)=false:=decide_eq_false (by omega)
  obtain rfl:ok=true:=hok.trans (decide_eq_true hpos)
  obtain ⟨rfl,rfl⟩:=hN rfl
  obtain ⟨b1,b2⟩:=hbd rfl
  have MF:=fun W=>jq lo 4096 W (by omega) (by omega) (by omega) (by omega) (by omega)
  generalize M.fN (M.fmk lo 4096)=n at *
  generalize M.fD (M.fmk lo 4096)=d at *
  generalize (M.fmk lo 4096).isSome=fq at *
  replace MF:=xK MF
  clear hok hN hbd hno
  go_enter Tryz.func45,Tryz.ntmps45
  go_upto_region 5 with first
   | (go_at_call 35;(refine (RG.out _ hxc.out).mono ?_);rintro e w4 ⟨rfl,hb4⟩;(have Ba:=(xN w4.heap.size w4).alloc (xO _) (.cells #[.int .i64 lo,.int .i64 hh] 68));(have S:=aH.new w4 #[.int .i64 lo,.int .i64 hh] 68);(have hz4:=hb4.size);(replace B:=(B.trans (hb4.mono B.size)).trans (Ba.mono (Nat.le_trans B.size hb4.size)));(replace R:=(R.keep hb4).keep Ba);(replace C:=(C.keep hb4).keep Ba);(have s0:=S.box.c0);(have za:=Ba.size))
   | (go_at_call 63;(refine (MF.out _).mono ?_);rintro e w5 ⟨rfl,hb5⟩;(have Bb:=(xN w5.heap.size w5).alloc (xO _) (.cells #[.int .i64 n,.int .i64 d] 45));(have F:=aH.new w5 #[.int .i64 n,.int .i64 d] 45);(have hz5:=hb5.size);(replace B:=(B.trans (hb5.mono B.size)).trans (Bb.mono (Nat.le_trans B.size hb5.size)));(replace R:=(R.keep hb5).keep Bb);(replace C:=(C.keep hb5).keep Bb);(have J0:=xK (McS.mk B C F R (by omega) (by omega) (by omega) (show w.heap.size+1<w5.heap.size+1 by omega) (by rw [xL];omega))))
  refine Rg.p9 (fun k v W=>eN 2 4 w w.heap.size w5.heap.size (w.heap.size+1) (w5.heap.size+1) a b n d 45 #[.int .i64 n,.int .i64 d] l k v W) [2,4,5] [.agg #[.int .i64 a,.int .i64 b],.slice sa l.length cap,undef,.agg #[.int .i64 n,.int .i64 d],undef,undef,.bool true] (by kernel_rfl) (by kernel_rfl) (by kernel_rfl) (by decide) (fun k v v2 W h hj=>eN.congr (h 2 (by decide)) (h 4 (by decide)) hj) (fun _=>J0.out.keep (xN _ _).drew) ⟨?_,?_,?_,?_,?_,?_,?_,trivial⟩ ?_
  ·unfold Rg.aj
   rw [if_neg (by decide)]
   intro ac_ w_ n_ vals_ hn_ hJ hr
   refine ⟨rfl,?_⟩
   have e2:ac_.tmps[2]?=some (.pointer (some ⟨w.heap.size,0,none⟩)):=hr 2 (by decide)
   obtain ⟨zs_,hs_⟩:=eN.st hJ
   have k0:=hs_.C.box.c0
   have k1:=hs_.C.box.c1
   (first | (go_simp;done) | (go_simp;exact Rg.wr (by omega) (by omega)) | (go_simp;omega) | (go_simp;rfl))
  ·unfold Rg.aj
   rw [if_neg (by decide)]
   intro ac_ w_ n_ vals_ hn_ hJ hr
   refine ⟨rfl,?_⟩
   have e1:ac_.tmps[1]?=some (.slice sa l.length cap):=hr 1 (by decide)
   go_simp
  ·unfold Rg.aj
   rw [if_pos (by decide)]
   intro ac_ w_ vals_ hJ hr
   have e31:ac_.tmps[31]?=some (.slice sa l.length cap):=hr 31 (by decide)
   have ef:∀ f,ac_.eval (.func f)=.func (.func f) #[] #[]:=fun _=>rfl
   refine ⟨rfl,?_⟩
   have h0_:McS w w.heap.size w5.heap.size (w.heap.size+1) (w5.heap.size+1) a b 45 #[.int .i64 n,.int .i64 d] #[.int .i64 0,.int .i64 0,.slice none 0 0,.int .i64 0,.int .i64 0] w_:=hJ
   refine Rg.ux (by go_simp;exact ⟨rfl,rfl⟩) ?_
   refine (CL.out _ (Hx.out.below h0_.B)).mono ?_
   rintro e w6_ ⟨u_,rfl,ho_,hb_⟩
   exact ⟨u_,rfl,h0_.keep hb_,ho_.down h0_.hb⟩
  ·unfold Rg.aj
   rw [if_neg (by decide)]
   intro ac_ w_ n_ vals_ hn_ hJ hr
   refine ⟨rfl,?_⟩
   have e8:ac_.tmps[8]?=some (.pointer (some ⟨w5.heap.size,0,none⟩)):=hr 8 (by decide)
   obtain ⟨zs_,hs_⟩:=eN.st hJ
   have k0:=hs_.F.box.c0
   have k1:=hs_.F.box.c1
   (first | (go_simp;done) | (go_simp;exact Rg.wr (by omega) (by omega)) | (go_simp;omega) | (go_simp;rfl))
  ·unfold Rg.aj
   rw [if_pos (by decide)]
   intro ac_ w_ vals_ hJ hr
   have e30:ac_.tmps[30]?=some (.agg #[.int .i64 a,.int .i64 b]):=hr 30 (by decide)
   have e32:ac_.tmps[32]?=some (vals_ 2):=hr 32 (by decide)
   have e33:ac_.tmps[33]?=some (.agg #[.int .i64 n,.int .i64 d]):=hr 33 (by decide)
   refine ⟨rfl,?_⟩
   obtain ⟨h0_,ho_⟩:McS w w.heap.size w5.heap.size (w.heap.size+1) (w5.heap.size+1) a b 45 #[.int .i64 n,.int .i64 d] #[.int .i64 0,.int .i64 0,.slice none 0 0,.int .i64 0,.int .i64 0] w_∧Rw.Own EPt w_ (w5.heap.size+1) (vals_ 2) l:=hJ
   obtain ⟨A_,c_,q_⟩:=slV ho_.seen.pts
   rw [q_] at e32
   refine Rg.kL (x:=.agg #[.int .i64 a,.int .i64 b,.slice A_ l.length c_,.int .i64 n,.int .i64 d]) (w2:=w_) (by (first | (go_simp;done) | (go_simp;exact Rg.wr (by omega) (by omega)) | (go_simp;omega) | (go_simp;rfl))) ?_
   exact ⟨⟨h0_,ho_⟩,by show Value.agg _=Value.agg #[.int .i64 a,.int .i64 b,(vals_ 2),.int .i64 n,.int .i64 d];rw [q_]⟩
  ·unfold Rg.aj
   rw [if_pos (by decide)]
   intro ac_ w_ vals_ hJ hr
   have e4:ac_.tmps[4]?=some (.pointer (some ⟨w.heap.size+1,0,none⟩)):=hr 4 (by decide)
   have e34:ac_.tmps[34]?=some (vals_ 4):=hr 34 (by decide)
   refine ⟨rfl,?_⟩
   have hJ:eN 2 4 w w.heap.size w5.heap.size (w.heap.size+1) (w5.heap.size+1) a b n d 45 #[.int .i64 n,.int .i64 d] l 2 vals_ w_:=hJ
   obtain ⟨⟨h0_,ho_⟩,e4_⟩:(McS w w.heap.size w5.heap.size (w.heap.size+1) (w5.heap.size+1) a b 45 #[.int .i64 n,.int .i64 d] #[.int .i64 0,.int .i64 0,.slice none 0 0,.int .i64 0,.int .i64 0] w_∧Rw.Own EPt w_ (w5.heap.size+1) (vals_ 2) l)∧vals_ 4=.agg #[.int .i64 a,.int .i64 b,vals_ 2,.int .i64 n,.int .i64 d]:=hJ
   obtain ⟨A_,c_,q_⟩:=slV ho_.seen.pts
   have hF_:=eN.store (v':=Rg.dM vals_ 5 undef) hJ q_.symm rfl rfl
   rw [e4_,q_] at e34
   have ⟨y0,y1,y2,y3,y4⟩:=h0_.R.dC
   have ⟨y5,y6,y7,y8,y9,_⟩:=h0_.R.iE
   clear h0_ ho_ hJ e4_ q_
   unfold Oper.wp
   go_simp
   all_goals first | exact ⟨undef,hF_⟩ | exact ⟨_,rfl,hF_⟩ | exact hF_
  ·unfold Rg.aj
   rw [if_neg (by decide)]
   intro ac_ w_ n_ vals_ hn_ hJ hr
   refine ⟨rfl,?_⟩
   have ec:=Rg.ec ac_
   go_simp
  intro vals wz hJ hv
  have v_6:vals 6=.bool true:=hv 6 (by decide) (by decide)
  simp only [Rg.an,Rg.fill,Act.put,Nat.reduceAdd]
  clear hv
  simp only [v_6]
  clear v_6
  obtain ⟨⟨hS,hO⟩,hE⟩:(McS w w.heap.size w5.heap.size (w.heap.size+1) (w5.heap.size+1) a b 45 #[.int .i64 n,.int .i64 d] #[.int .i64 a,.int .i64 b,vals 2,.int .i64 n,.int .i64 d] wz∧Rw.Own EPt wz (w5.heap.size+1) (vals 2) l)∧vals 4=.agg #[.int .i64 a,.int .i64 b,vals 2,.int .i64 n,.int .i64 d]:=hJ
  obtain ⟨A2,c2,q2⟩:=slV hO.seen.pts
  rw [q2] at hS hO
  rw [hE,q2]
  have R2:=hS.R
  have ⟨r0,r1,r2,r3,r4⟩:=R2.dC
  have BB:=hS.B
  have hO:=xK (hO.down (base':=w.heap.size) (by omega))
  clear J0 hS hE
  go_wp2
  exact bodyPost_ret (v:=.tuple #[.agg #[.int .i64 a,.int .i64 b,.slice A2 l.length c2,.int .i64 n,.int .i64 d],.bool true]) (by simp [results,Tryz.results45,go_sem, *]) rfl (⟨_,rfl,hO.out,BB⟩)
 have hd:decide (lo≤0)=true:=decide_eq_true (by omega)
 obtain rfl:ok=false:=hok.trans (decide_eq_false hpos)
 have hfin:=fun W=>hno.out W w.heap.size rfl
 replace hfin:=xK hfin
 clear hok hN hbd hno CL
 go_enter Tryz.func45,Tryz.ntmps45
 go_wp2_with (go_at_call 35;(refine (RG.out _ hxc.out).mono ?_);rintro e w4 ⟨rfl,hb4⟩;(have Ba:=(xN w4.heap.size w4).alloc (xO _) (.cells #[.int .i64 lo,.int .i64 hh] 68));(have S:=aH.new w4 #[.int .i64 lo,.int .i64 hh] 68);(have s0:=S.box.c0);(replace B:=(B.trans (hb4.mono B.size)).trans (Ba.mono (Nat.le_trans B.size hb4.size)));(replace R:=(R.keep hb4).keep Ba);(have ⟨r0,r1,r2,r3,r4⟩:=R.dC);(have ⟨r5,r6,r7,r8,r9,_⟩:=R.iE))
 exact bodyPost_ret (v:=.tuple #[.agg #[.int .i64 0,.int .i64 0,.slice none 0 0,.int .i64 0,.int .i64 0],.bool false]) (by simp [results,Tryz.results45,go_sem, *]) rfl (⟨.slice none 0 0,by rw [(hfin.out w).1],(hfin.out _).2,xM (xM (xM (xM (xM B (by simp) _) (by simp) _) (by simp) _) (by simp) _) (by simp) _⟩)
end
end Go.Proofs.YtgfkcoablfjbcaaGreat
