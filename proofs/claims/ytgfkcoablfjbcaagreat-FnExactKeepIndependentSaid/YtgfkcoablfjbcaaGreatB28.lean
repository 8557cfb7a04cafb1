/-
  Joined texts: contracts and plain lemmas.
-/
import Derived.Test.YtgfkcoablfjbcaaGreatB1
import Derived.Test.YtgfkcoablfjbcaaGreatB27
import Derived.Laws.IdiomCopy
import Derived.Shelf.Abstract
import Derived.Test.YtgfkcoablfjbcaaGreatB2
import Derived.Test.YtgfkcoablfjbcaaGreatB25
import Derived.Test.YtgfkcoablfjbcaaGreatB22
set_option linter.unusedSimpArgs false
set_option linter.unusedVariables false
set_option maxRecDepth 100000
set_option maxHeartbeats 8000000
namespace Go.Proofs.YtgfkcoablfjbcaaGreat
section
open Go.RowKit Go.Shelf
def EPt:Rw.Enc (Int × Int × Int) where
 t:=57
 k:=3
 cells:=fun q=>[.int .i64 q.1,.int .i64 q.2.1,.int .i64 q.2.2]
 len:=fun _=>rfl
 one:=fun x u hu=>by simp only [List.mem_cons,List.not_mem_nil,or_false] at hu;rcases hu with rfl | rfl | rfl <;> rfl
 pos:=by decide
theorem sd:(Tryz.prog.info? 57).map (fun i=>(i.zero,i.size,i.bytes))=some (some (.agg #[.int .i64 0,.int .i64 0,.int .i64 0]),3,24):=by kernel_rfl
theorem jT:Rw.Fits Tryz.prog EPt 31:=⟨Tryz.underlying31,by
 obtain ⟨i0,hi,hz0,hz1,hz2⟩:=info_parts sd
 exact ⟨i0,_,hi,hz0,hz1,by omega,rfl⟩⟩
theorem Rw.Seen.pts {w:World} {hi:Nat} {v:Value} {l:List Pt} (h:Rw.Seen EPt w hi v l):dh w v l:=by
 obtain ⟨a,cap,rfl,h1,h2,h3⟩:=h
 refine ⟨a,cap,rfl,?_⟩
 cases l with
 | nil=>exact Or.inl rfl
 | cons p l=>
 obtain ⟨g,x,e,-⟩:=h3 0 (by simp)
 refine Or.inr ⟨g,e,fun i y hy=>?_⟩
 obtain ⟨g2,x2,e2,-,hx2,hc⟩:=h3 i (List.getElem?_eq_some_iff.1 hy).1
 rw [e] at e2
 injection e2 with e2
 injection e2 with e2
 subst e2
 rw [hy] at hx2
 obtain rfl:=Option.some.inj hx2.out
 exact ⟨hc 0 _ rfl,hc 1 _ rfl,hc 2 _ rfl⟩
theorem ot (a b:Int) (w:World) :
  Calls Tryz.prog 10 #[.agg #[.int .i64 a,.int .i64 b]] w fun e w'=>e=.returned (.agg #[.int .i64 a,.int .i64 b])∧Below w.heap.size w w':=by
 go_enter Tryz.func10,Tryz.ntmps10
 go_wp2
 exact bodyPost_ret (v:=.agg #[.int .i64 a,.int .i64 b]) (by simp [results,Tryz.results10,go_sem, *]) rfl (⟨rfl,(by repeat (first | exact xO _ _ | refine aR ?_ _ | refine aS ?_ (by assumption) | refine Below.drew ?_ | refine xN ?_ (by first | exact xP _ | exact Nat.le_add_right _ _ | (simp <;> omega)) _ | refine aL ?_ _))⟩)
theorem q7 (a b c:Int) (w:World) :
  Calls Tryz.prog 28 #[.agg #[.int .i64 a,.int .i64 b,.int .i64 c]] w fun e w'=>e=.returned (.agg #[.int .i64 a,.int .i64 b,.int .i64 c])∧Below w.heap.size w w':=by
 go_enter Tryz.func28,Tryz.ntmps28
 go_wp2
 exact bodyPost_ret (v:=.agg #[.int .i64 a,.int .i64 b,.int .i64 c]) (by simp [results,Tryz.results28,go_sem, *]) rfl (⟨rfl,(by repeat (first | exact xO _ _ | refine aR ?_ _ | refine aS ?_ (by assumption) | refine Below.drew ?_ | refine xN ?_ (by first | exact xP _ | exact Nat.le_add_right _ _ | (simp <;> omega)) _ | refine aL ?_ _))⟩)
theorem qI (a b c d e f:Int) (w:World) :
  Calls Tryz.prog 37 #[.agg #[.int .i64 a,.int .i64 b,.int .i64 c],.agg #[.int .i64 d,.int .i64 e,.int .i64 f]] w fun r w'=>r=.returned (.bool (decide ((a,b,c)=(d,e,f))))∧Below w.heap.size w w':=by
 by_cases h1:a=d <;> by_cases h2:b=e <;> by_cases h3:c=f
 all_goals
  go_enter Tryz.func37,Tryz.ntmps37
  go_wp2
  go_ret;exact ⟨dD (by simp [h1,h2,h3]),(by repeat (first | exact xO _ _ | refine aR ?_ _ | refine aS ?_ (by assumption) | refine Below.drew ?_ | refine xN ?_ (by first | exact xP _ | exact Nat.le_add_right _ _ | (simp <;> omega)) _ | refine aL ?_ _))⟩
theorem vB {w:World} {base g n cap j:Nat} {xs:List (Int × Int × Int)} (hn:n=xs.length) (h:Rw.Own EPt w base (.slice (some ⟨g,0,none⟩) n cap) xs) (hj:j<n) (c:Int × Int × Int) {ys:List (Int × Int × Int)} (hy:ys=xs.set j c) :
  Rw.Own EPt (((w.setCell ⟨g,j*3,none⟩ (.int .i64 c.1)).setCell ⟨g,j*3+1,none⟩ (.int .i64 c.2.1)).setCell ⟨g,j*3+2,none⟩ (.int .i64 c.2.2)) base (.slice (some ⟨g,0,none⟩) n cap) ys∧w.grownBy (((w.setCell ⟨g,j*3,none⟩ (.int .i64 c.1)).setCell ⟨g,j*3+1,none⟩ (.int .i64 c.2.1)).setCell ⟨g,j*3+2,none⟩ (.int .i64 c.2.2)) (some g):=by
 subst hn hy
 have h1:=World.ownsRow.stored (g:=g) (cap:=cap) h (j*3) (.int .i64 c.1)
 have h2:=World.ownsRow.stored (g:=g) (cap:=cap) h1.1 (j*3+1) (.int .i64 c.2.1)
 have h3:=World.ownsRow.stored (g:=g) (cap:=cap) h2.1 (j*3+2) (.int .i64 c.2.2)
 refine ⟨?_,dB (dB (h1.2) h2.2) h3.2⟩
 have e:(((xs.flatMap EPt.cells).set (j*3) (.int .i64 c.1)).set (j*3+1) (.int .i64 c.2.1)).set (j*3+2) (.int .i64 c.2.2)=(xs.set j c).flatMap EPt.cells:=by
  refine List.ext_getElem? fun t=>?_
  have hl:(xs.flatMap EPt.cells).length=xs.length*3:=Rw.cG EPt xs
  rw [Rw.jU EPt xs j c hj]
  have hk:EPt.k=3:=rfl
  rw [hk]
  rcases (show t=j*3∨t=j*3+1∨t=j*3+2∨¬(j*3≤t∧t<j*3+3) by omega) with ht | ht | ht | ht
  ·subst ht
   rw [List.getElem?_set_ne (by omega),List.getElem?_set_ne (by omega),List.getElem?_set_self (by first | omega | (simp only [List.length_set];omega)),if_pos (by omega),show j*3 - j*3=0 from by omega]
   rfl
  ·subst ht
   rw [List.getElem?_set_ne (by omega),List.getElem?_set_self (by first | omega | (simp only [List.length_set];omega)),if_pos (by omega),show j*3+1 - j*3=1 from by omega]
   rfl
  ·subst ht
   rw [List.getElem?_set_self (by first | omega | (simp only [List.length_set];omega)),if_pos (by omega),show j*3+2 - j*3=2 from by omega]
   rfl
  rw [List.getElem?_set_ne (by omega),List.getElem?_set_ne (by omega),List.getElem?_set_ne (by omega),if_neg ht]
 have h9:=h3.1
 rw [e] at h9
 unfold Rw.Own
 rw [List.length_set]
 exact h9
theorem rZ {w:World} {base g n cap j:Nat} {xs:List (Int × Int × Int)} {c:Int × Int × Int} (hn:n=xs.length) (h:Rw.Own EPt w base (.slice (some ⟨g,0,none⟩) n cap) xs) (hc:xs[j]?=some c) :
  w.cell? ⟨g,j*3,none⟩=some (.int .i64 c.1)∧w.cell? ⟨g,j*3+1,none⟩=some (.int .i64 c.2.1)∧w.cell? ⟨g,j*3+2,none⟩=some (.int .i64 c.2.2)∧w.frozen? ⟨g,j*3,none⟩=false∧w.frozen? ⟨g,j*3+1,none⟩=false∧w.frozen? ⟨g,j*3+2,none⟩=false:=by
 have e0:=h.cellAt hn (j*3) _ ((Rw.flat_get EPt xs j 0 c hc (by decide)).trans rfl)
 have e1:=h.cellAt hn (j*3+1) _ ((Rw.flat_get EPt xs j 1 c hc (by decide)).trans rfl)
 have e2:=h.cellAt hn (j*3+2) _ ((Rw.flat_get EPt xs j 2 c hc (by decide)).trans rfl)
 exact ⟨e0.1,e1.1,e2.1,e0.2,e1.2,e2.2⟩
theorem nv (v u:Value) (xs ys:List (Int × Int × Int)) (w:World) (h1 h2:Nat) (hx:Rw.Seen EPt w h1 v xs) (hy:Rw.Seen EPt w h2 u ys) (hh1:h1≤w.heap.size) (hh2:h2≤w.heap.size) :
  Calls Tryz.prog 14 #[v,u] w fun e w'=>e=.returned (.bool (decide (xs=ys)))∧Below w.heap.size w w':=by
 obtain ⟨a,cap,rfl,hm,hm2,hv⟩:=hx
 obtain ⟨a',cap',rfl,hm',hm2',hv'⟩:=hy
 by_cases hl:xs.length=ys.length
 ·have hl':=xL hl
  rw [hl] at hv hm ⊢
  clear hl
  obtain ⟨n,hn⟩:∃ n,n=ys.length:=⟨_,rfl⟩
  rw [←hn] at hv hv' hm hm' ⊢
  have hn:=xL hn
  have hnm:(n:Int)≤9223372036854775807:=by omega
  go_enter Tryz.func14,Tryz.ntmps14
  go_wp2
  go_loopw [5] (fun vi wr=>∃ k:Nat,k≤n∧vi=.int .i64 k∧Hid (∀ j:Nat,j<k→xs[j]?=ys[j]?)∧Below w.heap.size w wr) (fun vi _=>n - (intOf vi).toNat)
  case atStart=>exact ⟨0,by omega,rfl,xL (fun j h=>by omega),xO _ _⟩
  case round=>
  obtain ⟨k,hk,rfl,Hall,hbr⟩:=hrel
  by_cases hlt:k<n
  ·obtain ⟨g,x,rfl,hg,hx,hcell⟩:=hv k (by omega)
   obtain ⟨g',y,rfl,hg',hy,hcell'⟩:=hv' k hlt
   have e0_:wr.cell? ⟨g,k*3,none⟩=some (.int .i64 x.1):=(hbr.cell (p:=⟨g,k*3,none⟩) (Nat.lt_of_lt_of_le hg hh1)).trans (hcell 0 _ rfl)
   have e1_:wr.cell? ⟨g,k*3+1,none⟩=some (.int .i64 x.2.1):=(hbr.cell (p:=⟨g,k*3+1,none⟩) (Nat.lt_of_lt_of_le hg hh1)).trans (hcell 1 _ rfl)
   have e2_:wr.cell? ⟨g,k*3+2,none⟩=some (.int .i64 x.2.2):=(hbr.cell (p:=⟨g,k*3+2,none⟩) (Nat.lt_of_lt_of_le hg hh1)).trans (hcell 2 _ rfl)
   have f0_:wr.cell? ⟨g',k*3,none⟩=some (.int .i64 y.1):=(hbr.cell (p:=⟨g',k*3,none⟩) (Nat.lt_of_lt_of_le hg' hh2)).trans (hcell' 0 _ rfl)
   have f1_:wr.cell? ⟨g',k*3+1,none⟩=some (.int .i64 y.2.1):=(hbr.cell (p:=⟨g',k*3+1,none⟩) (Nat.lt_of_lt_of_le hg' hh2)).trans (hcell' 1 _ rfl)
   have f2_:wr.cell? ⟨g',k*3+2,none⟩=some (.int .i64 y.2.2):=(hbr.cell (p:=⟨g',k*3+2,none⟩) (Nat.lt_of_lt_of_le hg' hh2)).trans (hcell' 2 _ rfl)
   clear hv hv' hcell hcell'
   obtain ⟨x1,x2,x3⟩:=x
   obtain ⟨y1,y2,y3⟩:=y
   simp only [] at e0_ e1_ e2_ f0_ f1_ f2_
   have HE:=fun w=>qI x1 x2 x3 y1 y2 y3 w
   have hkk:((k:Nat):Int)<((n:Nat):Int):=by omega
   by_cases hxy:(x1,x2,x3)=(y1,y2,y3)
   ·have hd:decide ((x1,x2,x3)=(y1,y2,y3))=true:=decide_eq_true hxy
    simp only [hd] at HE
    have HE:=xL HE
    have hxy:=xL hxy
    clear hd
    go_upto_region 6 with fail
    refine Rg.bK 10 [.is (.slice (some ⟨g,0,none⟩) n cap),.is (.int .i64 ((k:Nat):Int)),.is (.pointer (some ⟨g,k*3,none⟩)),.is (.agg #[.int .i64 x1,.int .i64 x2,.int .i64 x3]),.is (.slice (some ⟨g',0,none⟩) n cap'),.is (.int .i64 ((k:Nat):Int)),.is (.pointer (some ⟨g',k*3,none⟩)),.is (.agg #[.int .i64 y1,.int .i64 y2,.int .i64 y3]),.is (.bool true),.is (.bool false)] (by kernel_rfl) (by kernel_rfl) (by kernel_rfl) ⟨?_,?_,?_,?_,?_,?_,?_,?_,?_,?_,trivial⟩ ?_
    ·intro _ ac_ w_ hB hr
     have e0:ac_.tmps[0]?=some (.slice (some ⟨g,0,none⟩) n cap):=hr 0 (by decide)
     exact Rg.aG rfl (by go_simp)
    ·intro _ ac_ w_ hB hr
     have e5:ac_.tmps[5]?=some (.int .i64 ((k:Nat):Int)):=hr 5 (by decide)
     exact Rg.aG rfl (by go_simp)
    ·intro _ ac_ w_ hB hr
     have e17:=Rg.ev1 (hr 17 (by decide))
     have e18:=Rg.ev1 (hr 18 (by decide))
     exact Rg.aG rfl (by (first | (go_simp;done) | (go_simp;omega)))
    ·intro _ ac_ w_ hB hr
     have e19:=Rg.ev1 (hr 19 (by decide))
     have k0:=aE hB e0_
     have k1:=aE hB e1_
     have k2:=aE hB e2_
     exact Rg.aG rfl (by (first | (go_simp;done) | (go_simp;omega)))
    ·intro _ ac_ w_ hB hr
     have e1:ac_.tmps[1]?=some (.slice (some ⟨g',0,none⟩) n cap'):=hr 1 (by decide)
     exact Rg.aG rfl (by go_simp)
    ·intro _ ac_ w_ hB hr
     have e5:ac_.tmps[5]?=some (.int .i64 ((k:Nat):Int)):=hr 5 (by decide)
     exact Rg.aG rfl (by go_simp)
    ·intro _ ac_ w_ hB hr
     have e21:=Rg.ev1 (hr 21 (by decide))
     have e22:=Rg.ev1 (hr 22 (by decide))
     exact Rg.aG rfl (by (first | (go_simp;done) | (go_simp;omega)))
    ·intro _ ac_ w_ hB hr
     have e23:=Rg.ev1 (hr 23 (by decide))
     have k0:=aE hB f0_
     have k1:=aE hB f1_
     have k2:=aE hB f2_
     exact Rg.aG rfl (by (first | (go_simp;done) | (go_simp;omega)))
    ·intro _ ac_ w_ hB hr
     have e20:=Rg.ev1 (hr 20 (by decide))
     have e24:=Rg.ev1 (hr 24 (by decide))
     have ef:=Rg.ef ac_
     exact Rg.br rfl (by go_simp) (HE.out _)
    ·intro _ ac_ w_ hB hr
     have e25:=Rg.ev1 (hr 25 (by decide))
     exact Rg.aG rfl (by go_simp)
    intro vals wz hB hv hne
    have v_9:vals 9=.bool false:=hv 9 (by decide)
    simp only [Rg.am,Rg.fill,Act.put,Nat.reduceAdd]
    clear hv
    simp only [v_9]
    clear v_9
    unfold Rg.aW
    go_wp2
    go_roundw
    case rel=>exact ⟨k+1,by omega,by go_num,xL (fun j hj=>if q:j=k then by rw [q,hx.out,hy.out,hxy.out] else Hall.out j (by omega)),hbr.trans (hB.mono hbr.size)⟩
    case measure=>simp [intOf] <;> omega
   have hd:decide ((x1,x2,x3)=(y1,y2,y3))=false:=decide_eq_false hxy
   simp only [hd] at HE
   have HE:=xL HE
   clear hd
   have hnq:decide (xs=ys)=false:=by
    rw [decide_eq_false_iff_not]
    intro he
    have h1:=hx.out
    rw [he,hy.out] at h1
    exact hxy (Option.some.inj h1).symm
   have hnq:=xL hnq
   have hxy:=xL hxy
   go_upto_region 6 with fail
   refine Rg.bK 10 [.is (.slice (some ⟨g,0,none⟩) n cap),.is (.int .i64 ((k:Nat):Int)),.is (.pointer (some ⟨g,k*3,none⟩)),.is (.agg #[.int .i64 x1,.int .i64 x2,.int .i64 x3]),.is (.slice (some ⟨g',0,none⟩) n cap'),.is (.int .i64 ((k:Nat):Int)),.is (.pointer (some ⟨g',k*3,none⟩)),.is (.agg #[.int .i64 y1,.int .i64 y2,.int .i64 y3]),.is (.bool false),.is (.bool true)] (by kernel_rfl) (by kernel_rfl) (by kernel_rfl) ⟨?_,?_,?_,?_,?_,?_,?_,?_,?_,?_,trivial⟩ ?_
   ·intro _ ac_ w_ hB hr
    have e0:ac_.tmps[0]?=some (.slice (some ⟨g,0,none⟩) n cap):=hr 0 (by decide)
    exact Rg.aG rfl (by go_simp)
   ·intro _ ac_ w_ hB hr
    have e5:ac_.tmps[5]?=some (.int .i64 ((k:Nat):Int)):=hr 5 (by decide)
    exact Rg.aG rfl (by go_simp)
   ·intro _ ac_ w_ hB hr
    have e17:=Rg.ev1 (hr 17 (by decide))
    have e18:=Rg.ev1 (hr 18 (by decide))
    exact Rg.aG rfl (by (first | (go_simp;done) | (go_simp;omega)))
   ·intro _ ac_ w_ hB hr
    have e19:=Rg.ev1 (hr 19 (by decide))
    have k0:=aE hB e0_
    have k1:=aE hB e1_
    have k2:=aE hB e2_
    exact Rg.aG rfl (by (first | (go_simp;done) | (go_simp;omega)))
   ·intro _ ac_ w_ hB hr
    have e1:ac_.tmps[1]?=some (.slice (some ⟨g',0,none⟩) n cap'):=hr 1 (by decide)
    exact Rg.aG rfl (by go_simp)
   ·intro _ ac_ w_ hB hr
    have e5:ac_.tmps[5]?=some (.int .i64 ((k:Nat):Int)):=hr 5 (by decide)
    exact Rg.aG rfl (by go_simp)
   ·intro _ ac_ w_ hB hr
    have e21:=Rg.ev1 (hr 21 (by decide))
    have e22:=Rg.ev1 (hr 22 (by decide))
    exact Rg.aG rfl (by (first | (go_simp;done) | (go_simp;omega)))
   ·intro _ ac_ w_ hB hr
    have e23:=Rg.ev1 (hr 23 (by decide))
    have k0:=aE hB f0_
    have k1:=aE hB f1_
    have k2:=aE hB f2_
    exact Rg.aG rfl (by (first | (go_simp;done) | (go_simp;omega)))
   ·intro _ ac_ w_ hB hr
    have e20:=Rg.ev1 (hr 20 (by decide))
    have e24:=Rg.ev1 (hr 24 (by decide))
    have ef:=Rg.ef ac_
    exact Rg.br rfl (by go_simp) (HE.out _)
   ·intro _ ac_ w_ hB hr
    have e25:=Rg.ev1 (hr 25 (by decide))
    exact Rg.aG rfl (by go_simp)
   intro vals wz hB hv hne
   have v_9:vals 9=.bool true:=hv 9 (by decide)
   simp only [Rg.am,Rg.fill,Act.put,Nat.reduceAdd]
   clear hv
   simp only [v_9]
   clear v_9
   unfold Rg.aW
   go_wp2
   go_ret
   exact ⟨dD hnq.out.symm,hbr.trans (hB.mono hbr.size)⟩
  obtain rfl:n=k:=by omega
  clear hv hv'
  have hall:decide (xs=ys)=true:=by
   rw [decide_eq_true_iff]
   refine List.ext_getElem? fun j=>?_
   rcases Nat.lt_or_ge j n with q | q
   ·exact Hall.out j q
   rw [List.getElem?_eq_none (l:=xs) (i:=j) (by have:=hl'.out;have:=hn.out;omega),List.getElem?_eq_none (l:=ys) (i:=j) (by have:=hn.out;omega)]
  have hall:=xL hall
  go_wp2
  go_ret
  exact ⟨dD hall.out.symm,hbr⟩
 have hne:Hid (decide (xs=ys)=false):=xL (by
  rw [decide_eq_false_iff_not]
  exact fun he=>hl (by rw [he]))
 have hl2:¬ ((xs.length:Int)=ys.length):=by omega
 clear hv hv'
 go_enter Tryz.func14,Tryz.ntmps14
 go_wp2
 go_ret
 exact ⟨dD hne.out.symm,(by repeat (first | exact xO _ _ | refine aR ?_ _ | refine aS ?_ (by assumption) | refine Below.drew ?_ | refine xN ?_ (by first | exact xP _ | exact Nat.le_add_right _ _ | (simp <;> omega)) _ | refine aL ?_ _))⟩
def M.tF (k:Int) (i:Nat):Int × Int × Int:=(k+3*i,k+3*i+1,k+3*i+1+1)
def M.eN (k:Int) (n:Nat):List (Int × Int × Int):=(List.range n).map (M.tF k)
theorem M.fB (k:Int) (n:Nat):(M.eN k n).length=n:=by simp [M.eN]
theorem M.mn {k:Int} {j:Nat} {xs:List (Int × Int × Int)} (h:j<xs.length):(M.eN k j ++ xs.drop j).set j (M.tF k j)=M.eN k (j+1) ++ xs.drop (j+1):=by
 have hl:=M.fB k j
 rw [List.set_append_right _ _ (by omega)]
 rw [hl,Nat.sub_self,List.drop_eq_getElem_cons h,List.set_cons_zero]
 unfold M.eN
 rw [List.range_succ,List.map_append]
 simp
theorem lM (v:Value) (xs:List (Int × Int × Int)) (k:Int) (w:World) (base:Nat) (hx:Rw.Own EPt w base v xs) (h1:0≤k) (h2:k+3*xs.length≤4000000000000000000) :
  Calls Tryz.prog 15 #[v,.int .i64 k] w fun e w'=>e=.returned (.int .i64 (k+3*xs.length))∧Rw.Own EPt w' base v (M.eN k xs.length)∧w.grownBy w' v.ownBlock:=by
 rcases hx.forms with ⟨rfl,rfl⟩ | ⟨g,cap,rfl,hg,hgs,hc,hc2⟩
 ·go_enter Tryz.func15,Tryz.ntmps15
  go_wp2
  go_loop [1,5] (fun vk vi=>vk=.int .i64 k∧vi=.int .i64 0) (fun _ _=>0)
  case atStart=>exact ⟨rfl,rfl⟩
  case round=>
  obtain ⟨rfl,rfl⟩:=hrel
  go_wp2
  go_ret
  exact ⟨gc (by simp),hx,de _ _⟩
 go_enter Tryz.func15,Tryz.ntmps15
 go_wp2
 go_loopw [1,5] (fun vk vi wr=>∃ j:Nat,j≤xs.length∧vi=.int .i64 j∧vk=.int .i64 (k+3*j)∧Rw.Own EPt wr base (.slice (some ⟨g,0,none⟩) xs.length cap) (M.eN k j ++ xs.drop j)∧w.grownBy wr (some g)) (fun _ vi _=>xs.length - (intOf vi).toNat)
 case atStart=>exact ⟨0,by omega,rfl,by simp,by simpa [M.eN] using hx,de _ _⟩
 case round=>
 obtain ⟨j,hj,rfl,rfl,hown,hgr⟩:=hrel
 have hlen:(M.eN k j ++ xs.drop j).length=xs.length:=by rw [List.length_append,M.fB,List.length_drop];omega
 by_cases hlt:j<xs.length
 ·have hj0:(M.eN k j ++ xs.drop j)[j]?=some xs[j]:=by
   rw [List.getElem?_append_right (by rw [M.fB];omega),M.fB,Nat.sub_self,List.getElem?_drop]
   simp [hlt]
  obtain ⟨c0,c1,c2,f0,f1,f2⟩:=rZ hlen.symm hown hj0
  have hst:=xL (vB hlen.symm hown hlt (M.tF k j) (M.mn hlt).symm)
  generalize xs[j]=y at *
  clear hlen hj0
  go_wp2
  go_roundw
  case rel=>exact ⟨j+1,by omega,by go_num,by congr 1;omega,hst.out.1,dB hgr hst.out.2⟩
  case measure=>simp [intOf] <;> omega
 obtain rfl:j=xs.length:=by omega
 clear hlen
 go_wp2
 go_ret
 exact ⟨rfl,by simpa using hown,hgr⟩
def cy (w:World) (v:Value) (xs:List Pt):Prop:=
 ∃ (A:Option Addr) (cap:Nat),v=.slice A xs.length cap∧(xs.length:Int)≤9223372036854775807∧
  ∀ k,k<xs.length→∃ g o x,A=some ⟨g,o,none⟩∧g<w.heap.size∧Hid (xs[k]?=some x)∧w.cell? ⟨g,o+k*3,none⟩=some (.int .i64 x.1)∧w.cell? ⟨g,o+k*3+1,none⟩=some (.int .i64 x.2.1)∧w.cell? ⟨g,o+k*3+2,none⟩=some (.int .i64 x.2.2)
theorem cy.keep {w w':World} {v:Value} {xs:List Pt} (h:cy w v xs) (hb:Below w.heap.size w w'):cy w' v xs:=by
 obtain ⟨A,cap,rfl,hm,hv⟩:=h
 refine ⟨A,cap,rfl,hm,fun k hk=>?_⟩
 obtain ⟨g,o,x,hA,hg,hx,h0,h1,h2⟩:=hv k hk
 exact ⟨g,o,x,hA,Nat.lt_of_lt_of_le hg hb.size,hx,aE hb h0,aE hb h1,aE hb h2⟩
theorem jx (v:Value) (xs:List Pt) (w:World) (hx:cy w v xs) :
  Calls Tryz.prog 8 #[v,.int .i64 1048576] w fun e w'=>e=.returned (.int .i64 (if xs.length≤1048576 then (1048576 - xs.length:Int) else -1))∧w=w':=by
 obtain ⟨A,cap,rfl,hm,hv⟩:=hx
 clear hv
 by_cases h:xs.length≤1048576
 ·rw [if_pos h]
  generalize xs.length=n at *
  go_enter Tryz.func8,Tryz.ntmps8
  go_wp2
  go_ret
  exact ⟨rfl,rfl⟩
 rw [if_neg h]
 generalize xs.length=n at *
 go_enter Tryz.func8,Tryz.ntmps8
 go_wp2
 go_ret
 exact ⟨rfl,rfl⟩
theorem oK (n:Nat):(madeCells #[.int .i64 0,.int .i64 0,.int .i64 0] (n*3)).toList=(List.replicate n ((0:Int),(0:Int),(0:Int))).flatMap EPt.cells:=by
 have e:(madeCells #[.int .i64 0,.int .i64 0,.int .i64 0] (n*3))=madeCells #[Value.int .i64 0] (n*3):=by
  unfold madeCells
  congr 1
  funext i
  have:i % 3=0∨i % 3=1∨i % 3=2:=by omega
  rcases this with h | h | h <;> simp [h,Nat.mod_one]
 rw [e,toList_madeCells_one]
 clear e
 induction n with
 | zero=>rfl
 | succ n ih=>
 rw [List.replicate_succ,List.flatMap_cons,←ih,show (n+1)*3=n*3+1+1+1 by omega,List.replicate_succ,List.replicate_succ,List.replicate_succ]
 rfl
theorem qC {xs:List Pt} {n j:Nat} {x:Pt} (hn:n=xs.length) (h:xs[j]?=some x):xs.take (j+1) ++ List.replicate (n - (j+1)) ((0:Int),(0:Int),(0:Int))=(xs.take j ++ List.replicate (n - j) ((0:Int),(0:Int),(0:Int))).set j x:=by
 have hj:=(List.getElem?_eq_some_iff.1 h).1
 rw [List.set_append_right _ _ (by rw [List.length_take];omega),List.length_take,show j - min j xs.length=0 by omega,show n - j=(n - (j+1))+1 by omega,List.replicate_succ,List.set_cons_zero,List.take_add_one,h]
 simp
theorem ou (v:Value) (xs:List Pt) (w:World) (hx:cy w v xs) (hn:xs.length≤1048576) :
  Calls Tryz.prog 11 #[v] w fun e w'=>∃ v',e=.returned v'∧Rw.Own EPt w' w.heap.size v' xs∧Below w.heap.size w w':=by
 obtain ⟨A,cap,rfl,hm,hv⟩:=hx
 have Hv:=xL hv
 clear hv
 obtain ⟨i0,hi,hz0,hz1,hz2⟩:=info_parts sd
 obtain ⟨w1,hrun,hown1,hg1⟩:=run_make_full (P:=Tryz.prog) w w.heap.size 31 57 i0 (.agg #[.int .i64 0,.int .i64 0,.int .i64 0]) 3 Tryz.underlying31 hi hz0 hz1 .i64 .i64 xs.length (by rw [hz2];omega) (by unfold maxLen;omega) (xP _)
 go_enter Tryz.func11,Tryz.ntmps11
 go_wp2
 have hown1:Rw.Own EPt w1 w.heap.size (.slice (some ⟨w.heap.size,0,none⟩) xs.length xs.length) (List.replicate xs.length ((0:Int),(0:Int),(0:Int))):=by
  unfold Rw.Own
  rw [←oK,List.length_replicate]
  exact hown1
 have hb1:Below w.heap.size w w1:=cN hg1 (xP _) (fun k hk=>by cases hk)
 go_loopw [4] (fun vi wr=>∃ j:Nat,j≤xs.length∧vi=.int .i64 j∧Rw.Own EPt wr w.heap.size (.slice (some ⟨w.heap.size,0,none⟩) xs.length xs.length) (xs.take j ++ List.replicate (xs.length - j) ((0:Int),(0:Int),(0:Int)))∧Below w.heap.size w wr) (fun vi _=>xs.length - (intOf vi).toNat)
 case atStart=>exact ⟨0,by omega,rfl,by simpa using hown1,hb1⟩
 case round=>
 obtain ⟨j,hj,rfl,hown,hbr⟩:=hrel
 have hlen:(xs.take j ++ List.replicate (xs.length - j) ((0:Int),(0:Int),(0:Int))).length=xs.length:=by rw [List.length_append,List.length_take,List.length_replicate];omega
 by_cases hlt:j<xs.length
 ·obtain ⟨g,o,x,rfl,hg,hx,h0,h1,h2⟩:=Hv.out j hlt
  have e0:=(hbr.cell (p:=⟨g,o+j*3,none⟩) hg).trans h0
  have e1:=(hbr.cell (p:=⟨g,o+j*3+1,none⟩) hg).trans h1
  have e2:=(hbr.cell (p:=⟨g,o+j*3+2,none⟩) hg).trans h2
  have hj0:(xs.take j ++ List.replicate (xs.length - j) ((0:Int),(0:Int),(0:Int)))[j]?=some (0,0,0):=by
   rw [List.getElem?_append_right (by rw [List.length_take];omega),List.length_take,show j - min j xs.length=0 by omega,List.getElem?_replicate]
   rw [if_pos (by omega)]
  have hzr:=hbr.size
  go_wp2_with fail
  refine (q7 x.1 x.2.1 x.2.2 _).mono ?_;rintro e w2 ⟨rfl,hb2⟩
  have hown2:=hown.below hb2
  obtain ⟨c0,c1,c2,f0,f1,f2⟩:=rZ hlen.symm hown2 hj0
  have hst:=xL (vB hlen.symm hown2 hlt x (qC rfl hx.out))
  clear hlen hj0 h0 h1 h2
  go_wp2
  go_roundw
  case rel=>exact ⟨j+1,by omega,by go_num,hst.out.1,((hbr.trans (hb2.mono hzr)).grown hst.out.2 (by have:=hb2.size;omega) (fun q hq=>by cases hq;exact xP _))⟩
  case measure=>simp [intOf] <;> omega
 obtain rfl:j=xs.length:=by omega
 clear hlen
 go_wp2
 go_ret
 exact ⟨_,rfl,by simpa using hown,hbr⟩
end
section
open Go.RowKit
namespace M
theorem jl {a b:Int} {l:List Pt} (h:cY a b l=true):good a b=true∧1≤l.length∧l.length≤4∧∀ p ∈ l,bP a b p.1 p.2.1 p.2.2=true:=by
 unfold cY at h
 rw [Bool.and_eq_true,Bool.and_eq_true] at h
 obtain ⟨⟨h1,h2⟩,h3⟩:=h
 unfold ins at h2
 simp only [Bool.and_eq_true,decide_eq_true_eq] at h2
 exact ⟨h1,by omega,by omega,List.all_eq_true.1 h3⟩
theorem wB {x:Int} (h1:-409600000≤x) (h2:x≤409600000):decide (pn x > 0)=decide (x > 0):=by
 obtain ⟨-,-,-,-,h3,h4,-,-,-⟩:=nw (bG h1 h2)
 have:pn x > 0 ↔ x > 0:=by
  generalize 4096 / pd x=t at *
  generalize pn x=n at *
  subst h3
  constructor
  ·intro h;exact Int.mul_pos h (by omega)
  intro h
  rcases Int.lt_or_le 0 n with q | q
  ·exact q
  have:=Int.mul_nonpos_of_nonpos_of_nonneg q (show 0≤t by omega)
  omega
 simp only [this]
theorem uG {s:Sp} (h:okS s):decide (in1 s > 0)=decide (slo s > 0):=by
 cases s with
 | none=>rfl
 | some p=>
 obtain ⟨-,h1,h2⟩:=fb h
 have h3:=(fb h).1
 exact wB h1 (Int.le_trans h3 h2)
theorem uX {a b:Int} {l:List Pt}:okS (eO a b l):=by
 cases h:mOk a b l
 ·rw [lW h];exact eF
 rw [jq h];exact ix (jk h) _
end M
namespace M
noncomputable def fZ (a b:Int) (s:List Int × List Pt) (i:Nat) (p:Pt):Option (List Int × List Pt):=
 match eO a b (s.2 ++ [p]) with
 | none=>none
 | some q=>if 0<q.1 then some (s.1 ++ [(i:Int)],s.2 ++ [p]) else some s
noncomputable def fM (a b:Int) (l:List Pt):Nat→Option (List Int × List Pt)
 | 0=>some ([],[])
 | i+1=>match fM a b l i with
  | none=>none
  | some s=>match l[i]? with
   | none=>none
   | some p=>fZ a b s i p
theorem iC {a b:Int} {l:List Pt} {i:Nat} {s:List Int × List Pt} {p:Pt} (h:fM a b l i=some s) (hp:l[i]?=some p):fM a b l (i+1)=fZ a b s i p:=by
 rw [fM,h,hp]
theorem iD {a b:Int} {l:List Pt} {i:Nat} (h:fM a b l i=none):∀ k,i≤k→fM a b l k=none
 | 0,hk=>by
  obtain rfl:i=0:=by omega
  exact h
 | k+1,hk=>by
  rcases Nat.lt_or_ge k i with q | q
  ·obtain rfl:i=k+1:=by omega
   exact h
  rw [fM,iD h k q]
theorem iB {a b:Int} {s:List Int × List Pt} {i:Nat} {p:Pt} (h:eO a b (s.2 ++ [p])=none):fZ a b s i p=none:=by unfold fZ;rw [h]
theorem gK {a b:Int} {s:List Int × List Pt} {i:Nat} {p:Pt} {q:Int × Int} (h:eO a b (s.2 ++ [p])=some q):fZ a b s i p=if 0<q.1 then some (s.1 ++ [(i:Int)],s.2 ++ [p]) else some s:=by unfold fZ;rw [h]
theorem gX {a b:Int} {l:List Pt}:∀ {i:Nat} {s:List Int × List Pt},i≤l.length→fM a b l i=some s→s.1.length=s.2.length∧s.2.length≤i∧∀ p ∈ s.2,p ∈ l
 | 0,s,_,h=>by
  rw [fM] at h
  obtain rfl:=Option.some.inj h
  exact ⟨rfl,xP _,fun p hp=>by cases hp⟩
 | i+1,s,hi,h=>by
  obtain ⟨p,hp⟩:∃ p,l[i]?=some p:=⟨_,List.getElem?_eq_getElem (by omega)⟩
  cases hs:fM a b l i with
  | none=>rw [fM,hs] at h;cases h
  | some t=>
  obtain ⟨h1,h2,h3⟩:=gX (by omega) hs
  rw [iC hs hp] at h
  cases hr:eO a b (t.2 ++ [p]) with
  | none=>rw [iB hr] at h;cases h
  | some q=>
  rw [gK hr] at h
  split at h
  ·obtain rfl:=Option.some.inj h
   refine ⟨by simp [h1],by simp only [List.length_append,List.length_singleton];omega,fun x hx=>?_⟩
   rcases List.mem_append.1 hx with hx | hx
   ·exact h3 x hx
   obtain rfl:=List.mem_singleton.1 hx
   exact List.mem_of_getElem? hp
  obtain rfl:=Option.some.inj h
  exact ⟨h1,by omega,h3⟩
noncomputable def lK (a b:Int) (l:List Pt):Bool:=cY a b l && (fM a b l l.length).isSome
noncomputable def kpV (a b:Int) (l:List Pt):List Int:=if cY a b l=true then ((fM a b l l.length).map (·.1)).getD [] else []
theorem sm {a b:Int} {l:List Pt} (h:cY a b l=false):lK a b l=false∧kpV a b l=[]:=by unfold lK kpV;rw [h];exact ⟨rfl,rfl⟩
theorem lL {a b:Int} {l:List Pt} (h:fM a b l l.length=none):lK a b l=false∧kpV a b l=[]:=by
 unfold lK kpV
 rw [h]
 cases cY a b l <;> exact ⟨rfl,rfl⟩
theorem oJ {a b:Int} {l:List Pt} {s:List Int × List Pt} (hp:cY a b l=true) (h:fM a b l l.length=some s):lK a b l=true∧kpV a b l=s.1:=by
 unfold lK kpV
 rw [h,hp]
 exact ⟨rfl,rfl⟩
end M
end
section
open Go.RowKit Go.Shelf
theorem M.uR (a b:Int) (l:List Pt):(M.kpV a b l).length≤4:=by
 cases hp:M.cY a b l with
 | false=>rw [(M.sm hp).2];simp
 | true=>
 cases h:M.fM a b l l.length with
 | none=>rw [(M.lL h).2];simp
 | some s=>
 rw [(M.oJ hp h).2]
 obtain ⟨h1,h2,-⟩:=M.gX (xP _) h
 obtain ⟨-,-,h4,-⟩:=M.jl hp
 omega
theorem vS (b i:Nat):(⟨b,0,none⟩:Addr).add i=⟨b,i,none⟩:=by unfold Addr.add;split <;> simp_all
theorem dk.from' {w:World} {g:Nat} {l:List Pt} (h:dk w g l):Rw.From EPt w (some ⟨g,0,none⟩) l:=by
 intro j u hu
 refine ⟨_,rfl,?_⟩
 rw [vS]
 have hlt:j<(l.flatMap EPt.cells).length:=(List.getElem?_eq_some_iff.1 hu).1
 rw [Rw.cG] at hlt
 have hlt:j<l.length*3:=hlt
 obtain ⟨p,hp⟩:∃ p,l[j / 3]?=some p:=⟨_,List.getElem?_eq_getElem (by omega)⟩
 have hi:j % 3<EPt.k:=Nat.mod_lt _ (by decide)
 have hf:=Rw.flat_get EPt l (j / 3) (j % 3) p hp hi
 have hj:j / 3*EPt.k+j % 3=j:=by show j / 3*3+j % 3=j;omega
 rw [hj,hu] at hf
 obtain ⟨h1,h2,h3⟩:=h _ _ hp
 have h4:j % 3=0∨j % 3=1∨j % 3=2:=by omega
 rcases h4 with q | q | q
 ·rw [q] at hf
  obtain rfl:=Option.some.inj hf
  have e:j / 3*3=j:=by omega
  rw [e] at h1
  exact h1
 ·rw [q] at hf
  obtain rfl:=Option.some.inj hf
  have e:j / 3*3+1=j:=by omega
  rw [e] at h2
  exact h2
 rw [q] at hf
 obtain rfl:=Option.some.inj hf
 have e:j / 3*3+2=j:=by omega
 rw [e] at h3
 exact h3
theorem dh.from' {w:World} {v:Value} {l:List Pt} (h:dh w v l):∃ A cap,v=.slice A l.length cap∧∀ w',Below w.heap.size w w'→Rw.From EPt w' A l:=by
 obtain ⟨a,cap,rfl,h⟩:=h
 refine ⟨a,cap,rfl,fun w' hb=>?_⟩
 rcases h with rfl | ⟨g,rfl,h⟩
 ·exact Rw.From.nil EPt w' a
 exact (h.below hb).from'
theorem xC {w:World} {base:Nat} (hb:base≤w.heap.size):Rw.Own EPt (w.alloc (.cells #[] 57)) base (.slice (some ⟨w.heap.size,0,none⟩) 0 0) []:=Rw.Own.qR EPt w base hb
theorem ns (xs:List Pt) (v:Value) (w:World) (hx:dh w v xs) (hl:xs.length≤1000000000) :
  Calls Tryz.prog 36 #[v] w fun e w'=>∃ v',e=.returned v'∧Rw.Own EPt w' w.heap.size v' xs∧Below w.heap.size w w':=by
 obtain ⟨A,cap,rfl,hf⟩:=hx.from'
 clear hx
 have hf:=xL hf
 cases A with
 | none=>
  have h0:xs=[]:=by
   cases xs with
   | nil=>rfl
   | cons p l=>
   obtain ⟨ad,h,-⟩:=hf.out w (xO _ _) 0 (.int .i64 p.1) rfl
   cases h
  subst h0
  simp only [List.length_nil]
  clear hf hl
  have he:∀ W:World,(binOp .eql 31 (.slice none 0 cap) (.slice none 0 0)).run Tryz.prog W=.ok (.bool true) W:=fun _=>rfl
  go_enter Tryz.func36,Tryz.ntmps36
  go_wp2
  go_ret
  exact ⟨_,rfl,Rw.Own.nil EPt _ _,xO _ _⟩
 | some ad=>
 have he:∀ W:World,(binOp .eql 31 (.slice (some ad) xs.length cap) (.slice none 0 0)).run Tryz.prog W=.ok (.bool false) W:=fun _=>rfl
 go_enter Tryz.func36,Tryz.ntmps36
 go_wp2_with (at_builtin;refine Rw.push jT (W:=w) w.heap.size xs [] _ (some ad) _ _ (by rfl) (by rfl) (.tmp 5) (.tmp 6) (by rfl) (by rfl) (by rfl) (hf.out _ (by repeat (first | exact xO _ _ | refine aR ?_ _ | refine aS ?_ (by assumption) | refine Below.drew ?_ | refine xN ?_ (by first | exact xP _ | exact Nat.le_add_right _ _ | (simp <;> omega)) _ | refine aL ?_ _))) (xC (xP _)) (by repeat (first | exact xO _ _ | refine aR ?_ _ | refine aS ?_ (by assumption) | refine Below.drew ?_ | refine xN ?_ (by first | exact xP _ | exact Nat.le_add_right _ _ | (simp <;> omega)) _ | refine aL ?_ _)) (by simp) (by simp;omega) ?_;rintro v1 w1 hown1 hb1)
 go_ret
 exact ⟨_,rfl,hown1,hb1⟩
end
section
open Go Go.RowKit
namespace Rg
variable {P:Program} {Q:Exit→Act→World→Prop}
section
variable (P) (Q) (ops:Array Oper) (a0:Act) (T:List Value) (J:(Nat→Bool)→(Nat→Value)→World→Prop) (C:List Nat)
def cK (k:Nat) (o:Oper):Prop:=
 ∀ (a:Act) (w:World) (l:Nat→Bool) (vals:Nat→Value),J l vals w→l k=false→(∀ c,fW ops k c=true→l c=false)→(∀ c,fW ops c k=true→l c=true)→(∀ c d,fW ops c d=true→l d=true→l c=true)→(∀ t ∈ o.looksAt ops,jD ops a0 T C o a vals t)→Region.wanted o (yielded ops a.tmps)=true∧
  if k ∈ C then o.wp P a w (fun a' w'=>∃ v,a'=a.put o.dst v∧J (upd l k) (cQ vals k v) w') Q else (execOp a.eval o).run P w=.ok (.value (T.getD k undef)) w
def rC:List Oper→Nat→Prop
 | [],_=>True
 | o :: os,k=>cK P Q ops a0 T J C k o∧rC os (k+1)
def wP (l:Nat→Bool) (vals:Nat→Value) (w:World):Prop:=
 J l vals w∧∀ i,i ∉ C→l i=true→vals i=T.getD i undef
end
theorem tM {ops:Array Oper} {a0:Act} {T:List Value} {J:(Nat→Bool)→(Nat→Value)→World→Prop} {C:List Nat} (hJ:∀ l l' v v' w,(∀ i ∈ C,l i=l' i∧v i=v' i)→J l v w→J l' v' w) :
  ∀ (os:List Oper) (k:Nat),(∀ i,os[i]?=ops[k+i]?)→rC P Q ops a0 T J C os k→fS P Q .any ops (wP T J C) a0 os k
 | [],_,_,_=>trivial
 | o :: os,k,hos,h=>by
  refine ⟨fun a w l vals hI hl hc hdep hr=>?_,tM hJ os (k+1) (fun i=>by rw [show k+1+i=k+(i+1) by omega,←hos (i+1)];rfl) h.2⟩
  obtain ⟨hB,hv⟩:=hI
  have ho:ops[k]?=some o:=(hos 0).symm
  have hQ:∀ t ∈ o.looksAt ops,jD ops a0 T C o a vals t:=fun t ht=>by
   have:=hr t ht
   unfold rd at this
   unfold jD
   split
   ·rename_i e he
    rw [he] at this
    have h2:=List.find?_some he
    rw [Bool.and_eq_true] at h2
    replace this:a.tmps[t]?=some (vals e.on):=this
    split
    ·exact this
    rename_i n1
    rw [this,hv _ n1 (hdep e (Array.mem_toList_iff.1 (List.mem_of_find?_eq_some he)) h2.1)]
   rename_i he
   rw [he] at this
   exact this
  have hko:∀ j,j≠k→upd l k j=l j:=fun j hj=>if_neg hj
  have h1:=h.1
  unfold cK at h1
  have rest:∀ v,(k ∉ C→v=T.getD k undef)→∀ i,i ∉ C→upd l k i=true→cQ vals k v i=T.getD i undef:=fun v hvk i n1 hi=>by
   by_cases hik:i=k
   ·subst hik
    have:cQ vals i v i=v:=if_pos rfl
    rw [this];exact hvk n1
   rw [hko i hik] at hi
   have:cQ vals k v i=vals i:=if_neg hik
   rw [this]
   exact hv i n1 hi
  have hup:∀ c,fW ops k c=true→l c=false:=fun c he=>by
   cases q:l c
   ·rfl
   rw [cR hc he q] at hl;cases hl
  obtain ⟨hw,h1⟩:=h1 a w l vals hB hl hup (fun c he=>eA ho hdep he) (fun c d he hd=>cR hc he hd) hQ
  unfold jH
  rw [if_pos hw]
  by_cases e3:k ∈ C
  ·rw [if_pos e3] at h1
   refine Oper.wp_mono ?_ h1
   rintro a' w' ⟨v,e,h2⟩
   exact ⟨v,e,h2,rest v (fun h=>absurd e3 h)⟩
  rw [if_neg e3] at h1
  unfold Oper.wp
  rw [h1]
  refine ⟨_,rfl,hJ l _ vals _ _ (fun i hi=>?_) hB,rest _ (fun _=>rfl)⟩
  have:i≠k:=fun e=>e3 (by rw [←e];exact hi)
  exact ⟨(hko i this).symm,(if_neg this).symm⟩
theorem vF {id:Nat} {ops:Array Oper} {a0:Act} {w:World} (J:(Nat→Bool)→(Nat→Value)→World→Prop) (C:List Nat) (T:List Value)
  (hm:P.follows .mixedOrders=true) (hok:dl .any ops a0.tmps.size=true) (hcl:∀ c ∈ C,c<ops.size) (hJ:∀ l l' v v' w,(∀ i ∈ C,l i=l' i∧v i=v' i)→J l v w→J l' v' w)
  (h0:∀ vals,J (fun _=>false) vals { w with drawn:=w.drawn+1 })
  (hR:rC P Q ops a0 T J C ops.toList 0)
  (hF:∀ (vals:Nat→Value) (w':World),J (fun _=>true) vals w'→(∀ i,i<ops.size→i ∉ C→vals i=T.getD i undef)→Q .normal (fill (fun _=>true) vals ops.toList 0 a0) w'):(Code.region id ops true).wp P Q a0 w:=by
 refine gZ (wP T J C) hm hok (fun vals=>⟨h0 vals,(fun _ _ h=>absurd h (by simp))⟩) (tM hJ ops.toList 0 (fun i=>by rw [Nat.zero_add];exact Array.getElem?_toList) hR) ?_
 intro l vals w' hl hI
 obtain ⟨h1,h2⟩:=hI
 exact hF vals w' (hJ l _ vals vals w' (fun i hi=>⟨hl i (hcl i hi),rfl⟩) h1) (fun i hi n1=>h2 i n1 (hl i hi))
end Rg
end
section
open Go.RowKit Go.Shelf
theorem aH.sP {α:Type} {E:Rw.Enc α} {w w':World} {g base:Nat} {T:TypeId} {xs:Array Value} {v:Value} {ps:List α} (hv:aH w g T xs) (ho:Rw.Own E w base v ps) (hg:w.grownBy w' v.ownBlock) (hT:T≠E.t):aH w' g T xs:=by
 refine (hg.block g hv.lt fun e=>?_).trans hv
 rcases ho.2 with ⟨rfl,-⟩ | ⟨g',cap,cur,rfl,-,hh,-⟩
 ·simp [Value.ownBlock] at e
 simp only [Value.ownBlock,Option.some.injEq] at e
 subst e
 unfold aH at hv
 rw [hv] at hh
 injection hh with hh
 injection hh with _ h2
 exact hT h2
theorem Rw.From.keep {α:Type} {E:Rw.Enc α} {w w':World} {H:Nat} {ys:List α} (h:Rw.From E w (some ⟨H,0,none⟩) ys) (hH:H<w.heap.size) (hb:Below w.heap.size w w'):Rw.From E w' (some ⟨H,0,none⟩) ys:=by
 intro j u hu
 obtain ⟨ad,h1,h2⟩:=h j u hu
 obtain rfl:=Option.some.inj h1
 have hblk:((⟨H,0,none⟩:Addr).add j).block=H:=by unfold Addr.add;split <;> rfl
 exact ⟨_,rfl,(hb.cell (p:=(⟨H,0,none⟩:Addr).add j) (by rw [hblk];exact hH)).trans h2⟩
structure KpJ (W0:World) (ps:List Pt) (p:Pt) (T:TypeId) (ret:Value) (zs us:Array Value) (l:Nat→Bool) (v:Nat→Value) (w:World):Prop where
 B:Below W0.heap.size W0 w
 c:l 2=true→l 5=false→Rw.Own EPt w W0.heap.size (v 2) ps
 t:l 4=true→l 5=false→∃ H,v 4=.slice (some ⟨H,0,none⟩) 1 1∧H<w.heap.size∧Rw.From EPt w (some ⟨H,0,none⟩) [p]
 a:l 5=true→l 6=false→Rw.Own EPt w W0.heap.size (v 5) (ps ++ [p])
 r:l 6=true→v 6=ret
 n:l 10=true→l 11=false→∃ H,v 10=.pointer (some ⟨H,0,none⟩)∧W0.heap.size≤H∧aH w H T zs
 s:l 11=true→∃ H,v 10=.pointer (some ⟨H,0,none⟩)∧W0.heap.size≤H∧aH w H T us
namespace KpJ
variable {W0:World} {ps:List Pt} {p:Pt} {T:TypeId} {ret:Value} {zs us:Array Value} {l l':Nat→Bool} {v v':Nat→Value} {w w':World}
theorem start:KpJ W0 ps p T ret zs us (fun _=>false) v { W0 with drawn:=W0.drawn+1 } where
 B:=(xO _ _).drew
 c:=fun h=>by cases h
 t:=fun h=>by cases h
 a:=fun h=>by cases h
 r:=fun h=>by cases h
 n:=fun h=>by cases h
 s:=fun h=>by cases h
theorem congr (h:∀ i ∈ [2,4,5,6,10,11],l i=l' i∧v i=v' i) (j:KpJ W0 ps p T ret zs us l v w):KpJ W0 ps p T ret zs us l' v' w:=by
 have h1:=h 2 (by simp)
 have h2:=h 4 (by simp)
 have h3:=h 5 (by simp)
 have h4:=h 6 (by simp)
 have h5:=h 10 (by simp)
 have h6:=h 11 (by simp)
 obtain ⟨jB,jc,jt,ja,jr,jn,js⟩:=j
 rw [h1.1,h1.2,h3.1] at jc
 rw [h2.1,h2.2,h3.1] at jt
 rw [h3.1,h3.2,h4.1] at ja
 rw [h4.1,h4.2] at jr
 rw [h5.1,h5.2,h6.1] at jn
 rw [h6.1,h5.2] at js
 exact ⟨jB,jc,jt,ja,jr,jn,js⟩
theorem keep (j:KpJ W0 ps p T ret zs us l v w) (hb:Below w.heap.size w w'):KpJ W0 ps p T ret zs us l v w' where
 B:=j.B.trans (hb.mono j.B.size)
 c:=fun h1 h2=>(j.c h1 h2).below hb
 t:=fun h1 h2=>by
  obtain ⟨H,e,hH,hf⟩:=j.t h1 h2
  exact ⟨H,e,Nat.lt_of_lt_of_le hH hb.size,hf.keep hH hb⟩
 a:=fun h1 h2=>(j.a h1 h2).below hb
 r:=j.r
 n:=fun h1 h2=>by
  obtain ⟨H,e,hH,hf⟩:=j.n h1 h2
  exact ⟨H,e,hH,hf.keep hb⟩
 s:=fun h1=>by
  obtain ⟨H,e,hH,hf⟩:=j.s h1
  exact ⟨H,e,hH,hf.keep hb⟩
theorem clone {u:Value} (j:KpJ W0 ps p T ret zs us l v w) (hb:Below w.heap.size w w') (hu:Rw.Own EPt w' w.heap.size u ps):KpJ W0 ps p T ret zs us (Rg.upd l 2) (Rg.cQ v 2 u) w' where
 B:=(j.keep hb).B
 c:=fun _ _=>hu.down j.B.size
 t:=(j.keep hb).t
 a:=(j.keep hb).a
 r:=j.r
 n:=(j.keep hb).n
 s:=(j.keep hb).s
theorem lit (j:KpJ W0 ps p T ret zs us l v w):KpJ W0 ps p T ret zs us (Rg.upd l 4) (Rg.cQ v 4 (.slice (some ⟨w.heap.size,0,none⟩) 1 1)) (w.alloc (.cells #[.int .i64 p.1,.int .i64 p.2.1,.int .i64 p.2.2] 57)) where
 B:=(j.keep (bA w _)).B
 c:=(j.keep (bA w _)).c
 t:=fun _ _=>⟨w.heap.size,rfl,by simp,Rw.From.lit EPt w p _ rfl⟩
 a:=(j.keep (bA w _)).a
 r:=j.r
 n:=(j.keep (bA w _)).n
 s:=(j.keep (bA w _)).s
theorem var (j:KpJ W0 ps p T ret zs us l v w) (h11:l 11=false):KpJ W0 ps p T ret zs us (Rg.upd l 10) (Rg.cQ v 10 (.pointer (some ⟨w.heap.size,0,none⟩))) (w.alloc (.cells zs T)) where
 B:=(j.keep (bA w _)).B
 c:=(j.keep (bA w _)).c
 t:=(j.keep (bA w _)).t
 a:=(j.keep (bA w _)).a
 r:=j.r
 n:=fun _ _=>⟨w.heap.size,rfl,j.B.size,aH.new w zs T⟩
 s:=fun h=>by
  have h:l 11=true:=h
  rw [h11] at h;cases h
theorem app {u:Value} (j:KpJ W0 ps p T ret zs us l v w) (hT:T≠EPt.t) (h2:l 2=true) (h5:l 5=false) (h6:l 6=false) (h11:l 11=false) (hg:w.grownBy w' (v 2).ownBlock) (hu:Rw.Own EPt w' W0.heap.size u (ps ++ [p])):KpJ W0 ps p T ret zs us (Rg.upd l 5) (Rg.cQ v 5 u) w' where
 B:=j.B.grown hg j.B.size (fun k hk=>((j.c h2 h5).lt k hk).1)
 c:=fun _ h=>by cases h
 t:=fun _ h=>by cases h
 a:=fun _ _=>hu
 r:=fun h=>by
  have h:l 6=true:=h
  rw [h6] at h;cases h
 n:=fun h1 hs=>by
  obtain ⟨H,e,hH,hf⟩:=j.n h1 hs
  exact ⟨H,e,hH,hf.sP (j.c h2 h5) hg hT⟩
 s:=fun h=>by
  have h:l 11=true:=h
  rw [h11] at h;cases h
theorem res (j:KpJ W0 ps p T ret zs us l v w) (hb:Below w.heap.size w w'):KpJ W0 ps p T ret zs us (Rg.upd l 6) (Rg.cQ v 6 ret) w' where
 B:=(j.keep hb).B
 c:=(j.keep hb).c
 t:=(j.keep hb).t
 a:=fun _ h=>by cases h
 r:=fun _=>rfl
 n:=(j.keep hb).n
 s:=(j.keep hb).s
theorem put {u:Value} {H:Nat} (j:KpJ W0 ps p T ret zs us l v w) (h2:l 2=true) (h4:l 4=true) (h5:l 5=true) (h6:l 6=true) (h10:v 10=.pointer (some ⟨H,0,none⟩)) (hH:W0.heap.size≤H) (hV:aH w' H T us) (hB:Below W0.heap.size W0 w'):KpJ W0 ps p T ret zs us (Rg.upd l 11) (Rg.cQ v 11 u) w' where
 B:=hB
 c:=fun _ h=>by
  have h:l 5=false:=h
  rw [h5] at h;cases h
 t:=fun _ h=>by
  have h:l 5=false:=h
  rw [h5] at h;cases h
 a:=fun _ h=>by
  have h:l 6=false:=h
  rw [h6] at h;cases h
 r:=j.r
 n:=fun _ h=>by cases h
 s:=fun _=>⟨H,h10,hH,hV⟩
theorem _root_.Go.Proofs.YtgfkcoablfjbcaaGreat.oh:(68:TypeId)≠EPt.t:=by show (68:TypeId)≠57;decide
end KpJ
structure KqJ (W0:World) (ps:List Pt) (p:Pt) (l:Nat→Bool) (v:Nat→Value) (w:World):Prop where
 B:Below W0.heap.size W0 w
 e:l 0=true→l 2=false→Rw.Own EPt w W0.heap.size (v 0) []
 c:l 2=true→l 5=false→Rw.Own EPt w W0.heap.size (v 2) ps
 t:l 4=true→l 5=false→∃ H,v 4=.slice (some ⟨H,0,none⟩) 1 1∧H<w.heap.size∧W0.heap.size≤H∧Rw.From EPt w (some ⟨H,0,none⟩) [p]∧(l 0=true→l 2=false→(v 0).ownBlock≠some H)
 a:l 5=true→Rw.Own EPt w W0.heap.size (v 5) (ps ++ [p])
 m:l 6=true→Rw.Own EPt w W0.heap.size (v 6) (ps ++ [p])
namespace KqJ
variable {W0:World} {ps:List Pt} {p:Pt} {l l':Nat→Bool} {v v':Nat→Value} {w w':World}
theorem start:KqJ W0 ps p (fun _=>false) v { W0 with drawn:=W0.drawn+1 } where
 B:=(xO _ _).drew
 e:=fun h=>by cases h
 c:=fun h=>by cases h
 t:=fun h=>by cases h
 a:=fun h=>by cases h
 m:=fun h=>by cases h
theorem congr (h:∀ i ∈ [0,2,4,5,6],l i=l' i∧v i=v' i) (j:KqJ W0 ps p l v w):KqJ W0 ps p l' v' w:=by
 have h1:=h 0 (by simp)
 have h2:=h 2 (by simp)
 have h3:=h 4 (by simp)
 have h4:=h 5 (by simp)
 have h5:=h 6 (by simp)
 obtain ⟨jB,je,jc,jt,ja,jm⟩:=j
 rw [h1.1,h1.2,h2.1] at je
 rw [h2.1,h2.2,h4.1] at jc
 rw [h3.1,h3.2,h4.1,h1.1,h1.2,h2.1] at jt
 rw [h4.1,h4.2] at ja
 rw [h5.1,h5.2] at jm
 exact ⟨jB,je,jc,jt,ja,jm⟩
theorem keep (j:KqJ W0 ps p l v w) (hb:Below w.heap.size w w'):KqJ W0 ps p l v w' where
 B:=j.B.trans (hb.mono j.B.size)
 e:=fun h1 h2=>(j.e h1 h2).below hb
 c:=fun h1 h2=>(j.c h1 h2).below hb
 t:=fun h1 h2=>by
  obtain ⟨H,e,hH,h0,hf,hn⟩:=j.t h1 h2
  exact ⟨H,e,Nat.lt_of_lt_of_le hH hb.size,h0,hf.keep hH hb,hn⟩
 a:=fun h1=>(j.a h1).below hb
 m:=fun h1=>(j.m h1).below hb
theorem empty (j:KqJ W0 ps p l v w) (h2:l 2=false):KqJ W0 ps p (Rg.upd l 0) (Rg.cQ v 0 (.slice (some ⟨w.heap.size,0,none⟩) 0 0)) (w.alloc (.cells #[] 57)) where
 B:=(j.keep (bA w _)).B
 e:=fun _ _=>Rw.Own.qR EPt w _ j.B.size
 c:=fun h=>by
  have h:l 2=true:=h
  rw [h2] at h;cases h
 t:=fun h1 h2=>by
  obtain ⟨H,e,hH,h0,hf,-⟩:=j.t h1 h2
  exact ⟨H,e,Nat.lt_of_lt_of_le hH (bA w _).size,h0,hf.keep hH (bA w _),fun _ _ q=>by
   have q:some w.heap.size=some H:=q
   injection q with q
   omega⟩
 a:=(j.keep (bA w _)).a
 m:=(j.keep (bA w _)).m
theorem copy {u:Value} (j:KqJ W0 ps p l v w) (h0:l 0=true) (h2:l 2=false) (h5:l 5=false) (h6:l 6=false) (hg:w.grownBy w' (v 0).ownBlock) (hu:Rw.Own EPt w' W0.heap.size u ps):KqJ W0 ps p (Rg.upd l 2) (Rg.cQ v 2 u) w' where
 B:=j.B.grown hg j.B.size (fun k hk=>((j.e h0 h2).lt k hk).1)
 e:=fun _ h=>by cases h
 c:=fun _ _=>hu
 t:=fun h1 h3=>by
  obtain ⟨H,e,hH,hh,hf,hn⟩:=j.t h1 h3
  refine ⟨H,e,Nat.lt_of_lt_of_le hH hg.size,hh,?_,fun _ h=>by cases h⟩
  intro i x hx
  obtain ⟨ad,q1,q2⟩:=hf i x hx
  obtain rfl:=Option.some.inj q1
  have hblk:((⟨H,0,none⟩:Addr).add i).block=H:=by unfold Addr.add;split <;> rfl
  exact ⟨_,rfl,hg.cell q2 (by rw [hblk];exact fun q=>hn h0 h2 q.symm)⟩
 a:=fun h=>by
  have h:l 5=true:=h
  rw [h5] at h;cases h
 m:=fun h=>by
  have h:l 6=true:=h
  rw [h6] at h;cases h
theorem lit (j:KqJ W0 ps p l v w):KqJ W0 ps p (Rg.upd l 4) (Rg.cQ v 4 (.slice (some ⟨w.heap.size,0,none⟩) 1 1)) (w.alloc (.cells #[.int .i64 p.1,.int .i64 p.2.1,.int .i64 p.2.2] 57)) where
 B:=(j.keep (bA w _)).B
 e:=(j.keep (bA w _)).e
 c:=(j.keep (bA w _)).c
 t:=fun _ _=>⟨w.heap.size,rfl,by simp,j.B.size,Rw.From.lit EPt w p _ rfl,fun h1 h2 q=>by
  have:=((j.e h1 h2).lt _ q).2
  omega⟩
 a:=(j.keep (bA w _)).a
 m:=(j.keep (bA w _)).m
theorem app {u:Value} (j:KqJ W0 ps p l v w) (h2:l 2=true) (h5:l 5=false) (h6:l 6=false) (hg:w.grownBy w' (v 2).ownBlock) (hu:Rw.Own EPt w' W0.heap.size u (ps ++ [p])):KqJ W0 ps p (Rg.upd l 5) (Rg.cQ v 5 u) w' where
 B:=j.B.grown hg j.B.size (fun k hk=>((j.c h2 h5).lt k hk).1)
 e:=fun h1 h3=>by
  have h3:l 2=false:=h3
  rw [h2] at h3;cases h3
 c:=fun _ h=>by cases h
 t:=fun _ h=>by cases h
 a:=fun _=>hu
 m:=fun h=>by
  have h:l 6=true:=h
  rw [h6] at h;cases h
theorem take (j:KqJ W0 ps p l v w) (h5:l 5=true):KqJ W0 ps p (Rg.upd l 6) (Rg.cQ v 6 (v 5)) w where
 B:=j.B
 e:=j.e
 c:=j.c
 t:=j.t
 a:=j.a
 m:=fun _=>j.a h5
end KqJ
theorem sL {w:World} {H:Nat} (c:Int) (hH:w.heap.size=H):Rw.From EI (w.alloc (.cells #[.int .i64 c] 3)) (some ⟨H,0,none⟩) [c]:=Rw.From.lit EI w c H hH
theorem uC {w:World} {H:Nat} (c:Pt) (hH:w.heap.size=H):Rw.From EPt (w.alloc (.cells #[.int .i64 c.1,.int .i64 c.2.1,.int .i64 c.2.2] 57)) (some ⟨H,0,none⟩) [c]:=Rw.From.lit EPt w c H hH
theorem kL:EI.t≠EPt.t:=by show (3:TypeId)≠57;decide
theorem kH:EPt.t≠EI.t:=fun h=>kL h.symm
theorem vm {W w4:World} {base base7:Nat} {v7 v8:Value} {cs:List Pt} {ss:List Int} (h8:aF W base v8 ss) (h7:Rw.Own EPt W base7 v7 cs) (hg:W.grownBy w4 v7.ownBlock):aF w4 base v8 ss:=
 cP.2 (Rw.Own.kept (cP.1 h8) hg fun g hg'=>dw (cP.1 h8) h7 kL g hg')
theorem sk {W w4:World} {base base7:Nat} {v7 v8:Value} {cs:List Pt} {ss:List Int} (h7:Rw.Own EPt W base7 v7 cs) (h8:aF W base v8 ss) (hg:W.grownBy w4 v8.ownBlock):Rw.Own EPt w4 base7 v7 cs:=
 Rw.Own.kept h7 hg fun g hg'=>dw h7 (cP.1 h8) kH g hg'
theorem fL (a b:Int) (v:Value) (l:List Pt) (w:World) (hx:dh w v l) (hn:l.length≤4000000) :
  Calls Tryz.prog 12 #[.agg #[.int .i64 a,.int .i64 b],v] w fun e w'=>∃ v',e=.returned (.tuple #[v',.bool (M.lK a b l)])∧aF w' w.heap.size v' (M.kpV a b l)∧Below w.heap.size w w':=by
 obtain ⟨sa,cap,rfl,hv⟩:=hx
 have hx:dh w (.slice sa l.length cap) l:=⟨sa,cap,rfl,hv⟩
 have PL:=fun W h=>mo a b (.slice sa l.length cap) l W h hn
 replace hx:=xL hx
 obtain ⟨wc,hw3,C,B⟩:=iX w #[.int .i64 a,.int .i64 b] 29
 have hxc:=xL (hx.out.below B)
 have C_c0:=C.box.c0
 have C_c1:=C.box.c1
 cases hp:M.cY a b l with
 | false=>
  rw [hp] at PL
  have hfin:=xL (M.sm hp)
  replace PL:=xL PL
  clear hp
  go_enter Tryz.func12,Tryz.ntmps12
  go_wp2_with (go_at_call 34;(with_reducible refine (PL.out _ hxc.out).mono ?_);rintro e w4 ⟨rfl,hb4⟩;(replace B:=B.trans (hb4.mono B.size)))
  go_ret2
  exact ⟨.slice none 0 0,by rw [hfin.out.1];rfl,by rw [hfin.out.2];exact aF.nil _ _,B⟩
 | true=>
 rw [hp] at PL
 replace PL:=xL PL
 obtain ⟨hgd,hl1,hl4,hpt⟩:=M.jl hp
 obtain ⟨g,rfl,hpa⟩:∃ g,sa=some ⟨g,0,none⟩∧dk w g l:=by
  rcases hv with h | h
  ·rw [h] at hl1;simp at hl1
  exact h
 have HP:=xL (hpa.below B)
 have HG:=xL (And.intro hgd hpt)
 have hp:=xL hp
 clear hpa hv hgd hpt
 obtain ⟨N,hN⟩:∃ N,N=l.length:=⟨_,rfl⟩
 rw [←hN] at PL hxc hx hl1 hl4 ⊢
 replace hN:=xL hN
 go_enter Tryz.func12,Tryz.ntmps12
 go_wp2_with (go_at_call 34;(with_reducible refine (PL.out _ hxc.out).mono ?_);rintro e w4 ⟨rfl,hb4⟩;(replace B:=B.trans (hb4.mono B.size));(replace C:=C.keep hb4);(replace HP:=xL (HP.out.below hb4));(clear hxc C_c0 C_c1 PL))
 have B4:=xL B
 have z4:=B.size
 go_loopw [6,7,18] (fun v6 v7 vi wr=>∃ (i:Nat) (ks:List Int) (ps:List Pt),vi=.int .i64 i∧i≤N∧Hid (M.fM a b l i=some (ks,ps))∧Hid (aF wr w4.heap.size v6 ks)∧Hid (Rw.Own EPt wr w4.heap.size v7 ps)∧Below w4.heap.size w4 wr) (fun _ _ vi _=>N - (intOf vi).toNat)
 case atStart=>exact ⟨0,[],[],rfl,by omega,xL rfl,xL (aF.nil _ _),xL (Rw.Own.nil _ _ _),xO _ _⟩
 case round=>
 obtain ⟨i,ks,ps,rfl,hi,hkp,h6,h7,hbr⟩:=hrel
 have zr:=hbr.size
 obtain ⟨A7,cap7,rfl,-⟩:=h7.out.seen.pts.from'
 obtain ⟨A6,cap6,rfl⟩:=h6.out.jh
 by_cases hlt:i<N
 ·obtain ⟨p,hpi⟩:∃ p,Hid (l[i]?=some p):=⟨_,xL (List.getElem?_eq_getElem (by have:=hN.out;omega))⟩
  obtain ⟨d0,d1,d2⟩:=HP.out.below hbr i p hpi.out
  have hnx:=xL (M.iC hkp.out hpi.out)
  obtain ⟨hi1,hi2,hi3⟩:=M.gX (by have:=hN.out;omega) hkp.out
  replace hi1:ks.length=ps.length:=hi1
  replace hi2:ps.length≤i:=hi2
  have hkl:ks.length≤4:=by omega
  have hpl:ps.length≤4:=by omega
  have hlen:(ps ++ [p]).length≤4:=by rw [List.length_append,List.length_singleton];omega
  have CL:=xL (fun v w (h:dh w v ps)=>ns ps v w h (by omega))
  have RG:=fun v w (h:dh w v (ps ++ [p]))=>nF a b v (ps ++ [p]) w h HG.out.1 (by rw [List.length_append,List.length_singleton];omega) hlen (fun x hx=>by
   rcases List.mem_append.1 hx with h | h
   ·exact HG.out.2 x (hi3 x h)
   obtain rfl:=List.mem_singleton.1 h
   exact HG.out.2 x (List.mem_of_getElem? hpi.out))
  have hno:=fun h=>M.iB (a:=a) (b:=b) (s:=(ks,ps)) (i:=i) (p:=p) h
  have hyes:=fun q h=>M.gK (a:=a) (b:=b) (s:=(ks,ps)) (i:=i) (p:=p) (q:=q) h
  simp only [] at hno hyes
  generalize M.fZ a b (ks,ps) i p=st at *
  generalize M.eO a b (ps ++ [p])=rs at *
  have hsome:Hid (rs=if rs.isSome then some (M.slo rs,M.shi rs) else none):=xL (by cases rs <;> rfl)
  replace hno:=xL hno
  replace hyes:=xL hyes
  generalize rs.isSome=fl at *
  generalize M.slo rs=lo at *
  generalize M.shi rs=hh at *
  replace RG:=xL RG
  clear hi1 hi2 hi3
  obtain ⟨wp,hwp,Pv,Bp⟩:=iX wr #[.int .i64 p.1,.int .i64 p.2.1,.int .i64 p.2.2] 57
  have Cp:=(C.keep hbr).keep Bp
  have h6p:=xL (h6.out.below Bp)
  have h7p:=xL (h7.out.below Bp)
  have hwp':=xL hwp
  have zp:=Bp.size
  go_upto_region 8 with fail
  refine Rg.vF (fun l v w=>KpJ wp ps p 68 (.tuple #[.agg #[.int .i64 lo,.int .i64 hh],.bool fl]) #[.int .i64 0,.int .i64 0] #[.int .i64 lo,.int .i64 hh] l v w) [2,4,5,6,10,11] [.agg #[.int .i64 a,.int .i64 b],.slice A7 ps.length cap7,undef,.agg #[.int .i64 p.1,.int .i64 p.2.1,.int .i64 p.2.2],undef,undef,undef,.tuple #[.agg #[.int .i64 lo,.int .i64 hh],.bool fl],.agg #[.int .i64 lo,.int .i64 hh],.bool fl,undef,undef,.bool fl] (by kernel_rfl) (by kernel_rfl) (by decide) (fun l l2 v v2 w h j=>KpJ.congr h j) (fun _=>KpJ.start) ⟨?_,?_,?_,?_,?_,?_,?_,?_,?_,?_,?_,?_,?_,trivial⟩ ?_
  ·unfold Rg.cK
   intro ac_ w_ l_ vals_ hJ hl_ hu_ hd_ hc_ hr
   refine ⟨rfl,?_⟩
   rw [if_neg (by decide)]
   have e2:ac_.tmps[2]?=some (.pointer (some ⟨w.heap.size,0,none⟩)):=hr 2 (by decide)
   have hC_:=Cp.keep hJ.B
   have k0:=hC_.box.c0
   have k1:=hC_.box.c1
   (first | (go_simp;done) | (go_simp;exact Rg.wr (by omega) (by omega)) | (go_simp;omega) | (go_simp;rfl))
  ·unfold Rg.cK
   intro ac_ w_ l_ vals_ hJ hl_ hu_ hd_ hc_ hr
   refine ⟨rfl,?_⟩
   rw [if_neg (by decide)]
   have e7:ac_.tmps[7]?=some (.slice A7 ps.length cap7):=hr 7 (by decide)
   go_simp
  ·unfold Rg.cK
   intro ac_ w_ l_ vals_ hJ hl_ hu_ hd_ hc_ hr
   have e25:ac_.tmps[25]?=some (.slice A7 ps.length cap7):=hr 25 (by decide)
   have ef:∀ f,ac_.eval (.func f)=.func (.func f) #[] #[]:=fun _=>rfl
   refine ⟨rfl,?_⟩
   rw [if_pos (by decide)]
   refine Rg.rY (by go_simp;exact ⟨rfl,rfl⟩) ?_
   refine (CL.out _ _ (h7p.out.below hJ.B).seen.pts).mono ?_
   rintro e w5_ ⟨u_,rfl,ho_,hb_⟩
   exact ⟨u_,rfl,hJ.clone hb_ ho_⟩
  ·unfold Rg.cK
   intro ac_ w_ l_ vals_ hJ hl_ hu_ hd_ hc_ hr
   refine ⟨rfl,?_⟩
   rw [if_neg (by decide)]
   have e9:ac_.tmps[9]?=some (.pointer (some ⟨wr.heap.size,0,none⟩)):=hr 9 (by decide)
   have hP_:=Pv.keep hJ.B
   have ⟨k0,k1,k2⟩:=hP_.aQ
   (first | (go_simp;done) | (go_simp;exact Rg.wr (by omega) (by omega)) | (go_simp;omega) | (go_simp;rfl))
  ·unfold Rg.cK
   intro ac_ w_ l_ vals_ hJ hl_ hu_ hd_ hc_ hr
   have e27:ac_.tmps[27]?=some (.agg #[.int .i64 p.1,.int .i64 p.2.1,.int .i64 p.2.2]):=hr 27 (by decide)
   refine ⟨rfl,?_⟩
   rw [if_pos (by decide)]
   refine Rg.mg (x:=.slice (some ⟨w_.heap.size,0,none⟩) 1 1) (ob:=.cells #[.int .i64 p.1,.int .i64 p.2.1,.int .i64 p.2.2] 57) (by (first | (go_simp;done) | (go_simp;exact Rg.wr (by omega) (by omega)) | (go_simp;omega) | (go_simp;rfl))) ?_
   exact hJ.lit
  ·unfold Rg.cK
   intro ac_ w_ l_ vals_ hJ hl_ hu_ hd_ hc_ hr
   have e26:ac_.tmps[26]?=some (vals_ 2):=hr 26 (by decide)
   have e28:ac_.tmps[28]?=some (vals_ 4):=hr 28 (by decide)
   refine ⟨rfl,?_⟩
   rw [if_pos (by decide)]
   have l11_:l_ 11=false:=by
    cases q:l_ 11
    ·rfl
    have:=hu_ 6 (by kernel_rfl)
    rw [hc_ 6 7 (by kernel_rfl) (hc_ 7 8 (by kernel_rfl) (hc_ 8 11 (by kernel_rfl) q))] at this
    cases this
   obtain ⟨H_,eH_,hH_,hf_⟩:=hJ.t (hd_ 4 (by kernel_rfl)) hl_
   rw [eH_] at e28
   have hc_2:=hJ.c (hd_ 2 (by kernel_rfl)) hl_
   obtain ⟨v_,w5_,q1_,q2_,q3_,-⟩:=Rw.iN jT 31 [p] ⟨H_,0,none⟩ 1 hf_ hc_2 hJ.B.size (by simp only [List.length_singleton];omega)
   refine Rg.ju (x:=v_) (w2:=w5_) (Rg.er rfl (Rg.ev e26) (Rg.ev e28) q1_) ?_
   exact hJ.app oh (hd_ 2 (by kernel_rfl)) hl_ (hu_ 6 (by kernel_rfl)) l11_ q3_ q2_
  ·unfold Rg.cK
   intro ac_ w_ l_ vals_ hJ hl_ hu_ hd_ hc_ hr
   have e24:ac_.tmps[24]?=some (.agg #[.int .i64 a,.int .i64 b]):=hr 24 (by decide)
   have e29:ac_.tmps[29]?=some (vals_ 5):=hr 29 (by decide)
   have ef:∀ f,ac_.eval (.func f)=.func (.func f) #[] #[]:=fun _=>rfl
   refine ⟨rfl,?_⟩
   rw [if_pos (by decide)]
   refine Rg.rY (by go_simp;exact ⟨rfl,rfl⟩) ?_
   refine (RG.out _ _ (hJ.a (hd_ 5 (by kernel_rfl)) hl_).seen.pts).mono ?_
   rintro e w5_ ⟨rfl,hb_⟩
   exact ⟨_,rfl,hJ.res hb_⟩
  ·unfold Rg.cK
   intro ac_ w_ l_ vals_ hJ hl_ hu_ hd_ hc_ hr
   refine ⟨rfl,?_⟩
   rw [if_neg (by decide)]
   have e30:ac_.tmps[30]?=some (vals_ 6):=hr 30 (by decide)
   have e6_:vals_ 6=.tuple #[.agg #[.int .i64 lo,.int .i64 hh],.bool fl]:=hJ.r (hd_ 6 (by kernel_rfl))
   rw [e6_] at e30
   (first | (go_simp;done) | (go_simp;exact Rg.wr (by omega) (by omega)) | (go_simp;omega) | (go_simp;rfl))
  ·unfold Rg.cK
   intro ac_ w_ l_ vals_ hJ hl_ hu_ hd_ hc_ hr
   refine ⟨rfl,?_⟩
   rw [if_neg (by decide)]
   have e23:ac_.tmps[23]?=some (.tuple #[.agg #[.int .i64 lo,.int .i64 hh],.bool fl]):=hr 23 (by decide)
   (first | (go_simp;done) | (go_simp;exact Rg.wr (by omega) (by omega)) | (go_simp;omega) | (go_simp;rfl))
  ·unfold Rg.cK
   intro ac_ w_ l_ vals_ hJ hl_ hu_ hd_ hc_ hr
   refine ⟨rfl,?_⟩
   rw [if_neg (by decide)]
   have e23:ac_.tmps[23]?=some (.tuple #[.agg #[.int .i64 lo,.int .i64 hh],.bool fl]):=hr 23 (by decide)
   (first | (go_simp;done) | (go_simp;exact Rg.wr (by omega) (by omega)) | (go_simp;omega) | (go_simp;rfl))
  ·unfold Rg.cK
   intro ac_ w_ l_ vals_ hJ hl_ hu_ hd_ hc_ hr
   refine ⟨rfl,?_⟩
   rw [if_pos (by decide)]
   refine Rg.mg (x:=.pointer (some ⟨w_.heap.size,0,none⟩)) (ob:=.cells #[.int .i64 0,.int .i64 0] 68) (by (first | (go_simp;done) | (go_simp;exact Rg.wr (by omega) (by omega)) | (go_simp;omega) | (go_simp;rfl))) ?_
   exact hJ.var (hu_ 11 (by kernel_rfl))
  ·unfold Rg.cK
   intro ac_ w_ l_ vals_ hJ hl_ hu_ hd_ hc_ hr
   have e10:ac_.tmps[10]?=some (vals_ 10):=hr 10 (by decide)
   have e31:ac_.tmps[31]?=some (.agg #[.int .i64 lo,.int .i64 hh]):=hr 31 (by decide)
   refine ⟨rfl,?_⟩
   rw [if_pos (by decide)]
   obtain ⟨H_,eH_,hH_,hV_⟩:=hJ.n (hd_ 10 (by kernel_rfl)) hl_
   rw [eH_] at e10
   have l7_:l_ 7=true:=hc_ 7 8 (by kernel_rfl) (hd_ 8 (by kernel_rfl))
   have l6_:=hc_ 6 7 (by kernel_rfl) l7_
   have l5_:=hc_ 5 6 (by kernel_rfl) l6_
   have hp_:=fun u=>hJ.put (u:=u) (hc_ 2 5 (by kernel_rfl) l5_) (hc_ 4 5 (by kernel_rfl) l5_) l5_ l6_ eH_ hH_ (hV_.set2 (.int .i64 lo) (.int .i64 hh)) (xN (xN hJ.B hH_ _) hH_ _)
   have ⟨y0,y1,y2,y3,y4⟩:=hV_.box
   clear hV_ hJ
   unfold Oper.wp
   go_simp
   all_goals first | exact ⟨undef,hp_ _⟩ | exact ⟨_,rfl,hp_ _⟩ | exact hp_ _
  ·unfold Rg.cK
   intro ac_ w_ l_ vals_ hJ hl_ hu_ hd_ hc_ hr
   refine ⟨rfl,?_⟩
   rw [if_neg (by decide)]
   have e32:ac_.tmps[32]?=some (.bool fl):=hr 32 (by decide)
   (first | (go_simp;done) | (go_simp;exact Rg.wr (by omega) (by omega)) | (go_simp;omega) | (go_simp;rfl))
  intro vals wz hJ hv
  have v_12:vals 12=.bool fl:=hv 12 (by decide) (by decide)
  simp only [Rg.am,Rg.fill,Act.put,Nat.reduceAdd]
  clear hv
  simp only [v_12]
  clear v_12
  have Bz:=hJ.B
  obtain ⟨H,e10,hH,V⟩:=hJ.s rfl
  rw [e10]
  have Bw:Below w4.heap.size w4 wz:=(hbr.trans (Bp.mono zr)).trans (Bz.mono (Nat.le_trans zr zp))
  have Ball:Hid (Below w.heap.size w wz):=xL (B4.out.trans (Bw.mono z4))
  have Pz:=Pv.keep Bz
  have h6z:=h6p.out.below Bz
  have h7z:=h7p.out.below Bz
  have zz:=Bz.size
  have zw:=Bw.size
  have ⟨y0,y1,y2,y3,y4⟩:=V.box
  clear hJ e10 Bz Cp CL RG d0 d1 d2 h6p h7p
  cases fl with
  | false=>
   have hst:st=none:=hno.out (by rw [hsome.out];rfl)
   have hfin:=xL (M.lL (a:=a) (b:=b) (l:=l) (by rw [←hN.out];exact M.iD (hnx.out.trans hst) N (by omega)))
   go_wp2
   go_ret2
   exact ⟨.slice none 0 0,by rw [hfin.out.1];rfl,by rw [hfin.out.2];exact aF.nil _ _,Ball.out⟩
  | true=>
  have hst:=hyes.out (lo,hh) (by rw [hsome.out];rfl)
  simp only [] at hst
  by_cases hpos:0<lo
  ·rw [if_pos hpos] at hst
   have hd:decide (lo > 0)=true:=decide_eq_true hpos
   clear hsome hno hyes hwp' hlen
   go_wp2_with (first
    | (at_builtin;refine Rw.pf ux w4.heap.size [(i:Int)] ks _ ⟨_,0,none⟩ 1 1 (by rfl) (by rfl) (.tmp 38) (.tmp 40) (by rfl) (by rfl) (by rfl) (sL (i:Int) (by simp)) ((cP.1 h6z).alloc _) (by simp;omega) (by simp;omega) ?_;intro v5 w5 hown5 hg5 hbl5;(have h7y:=sk (h7z.alloc _) (aF.alloc h6z _) hg5);(have Py:=aH.sP (Pz.alloc _) ((cP.1 h6z).alloc _) hg5 kH);(have ⟨y5,y6,y7⟩:=Py.aQ);(have hb5:Below w4.heap.size w4 w5:=(aR Bw (.cells #[.int .i64 (i:Int)] 3)).grown hg5 (by simp;omega) (fun k hk=>(h6z.lt k hk).1));(have z5:=hb5.size);(have h6y:=hown5))
    | (at_builtin;refine Rw.pf jT w4.heap.size [p] ps _ ⟨_,0,none⟩ 1 1 (by rfl) (by rfl) (.tmp 42) (.tmp 44) (by rfl) (by rfl) (by rfl) (uC p (by simp)) (h7y.alloc _) (by simp;omega) (by simp;omega) ?_;intro v6 w6 hown6 hg6 hbl6;(have h6x:=vm (aF.alloc (cP.2 h6y) _) (h7y.alloc _) hg6);(have hb6:Below w4.heap.size w4 w6:=(aR hb5 (.cells #[.int .i64 p.1,.int .i64 p.2.1,.int .i64 p.2.2] 57)).grown hg6 (by simp;omega) (fun k hk=>(h7y.lt k hk).1))))
   go_roundw
   case rel=>exact ⟨i+1,ks ++ [(i:Int)],ps ++ [p],by go_num,by omega,xL (hnx.out.trans hst),xL h6x,xL hown6,hb6⟩
   case measure=>simp [intOf];omega
  rw [if_neg hpos] at hst
  have hd:decide (lo > 0)=false:=decide_eq_false hpos
  go_wp2
  go_roundw
  case rel=>exact ⟨i+1,ks,ps,by go_num,by omega,xL (hnx.out.trans hst),xL h6z,xL h7z,Bw⟩
  case measure=>simp [intOf];omega
 obtain rfl:i=N:=by omega
 have hfin:=xL (M.oJ (a:=a) (b:=b) (l:=l) hp.out (by rw [←hN.out];exact hkp.out))
 have Ball:Hid (Below w.heap.size w wr):=xL (B4.out.trans (hbr.mono z4))
 go_wp2
 go_ret2
 exact ⟨.slice A6 ks.length cap6,by rw [hfin.out.1];rfl,by rw [hfin.out.2];exact cP.2 ((cP.1 h6.out).down z4),Ball.out⟩
end
end Go.Proofs.YtgfkcoablfjbcaaGreat
