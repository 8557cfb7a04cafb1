/-
  Joined texts: contracts and plain lemmas.
-/
import Derived.Test.YthfjndmdalfloaaGreatY25
set_option linter.unusedSimpArgs false
set_option linter.unusedVariables false
set_option maxRecDepth 100000
set_option maxHeartbeats 8000000
namespace Go.Proofs.YthfjndmdalfloaaGreat
section
open Go.RowKit Go.Shelf
theorem mK {w:World} {base g n cap j:Nat} {xs:List (Int × Int × Int × Int)} (hn:n=xs.length) (h:Rw.Own EN w base (.slice (some ⟨g,0,none⟩) n cap) xs) (hj:j<n) (c:Int × Int × Int × Int) {ys:List (Int × Int × Int × Int)} (hy:ys=xs.set j c) :
  Rw.Own EN ((((w.setCell ⟨g,j*4,none⟩ (.int .i64 c.1)).setCell ⟨g,j*4+1,none⟩ (.int .i64 c.2.1)).setCell ⟨g,j*4+2,none⟩ (.int .i64 c.2.2.1)).setCell ⟨g,j*4+3,none⟩ (.int .i64 c.2.2.2)) base (.slice (some ⟨g,0,none⟩) n cap) ys∧w.grownBy ((((w.setCell ⟨g,j*4,none⟩ (.int .i64 c.1)).setCell ⟨g,j*4+1,none⟩ (.int .i64 c.2.1)).setCell ⟨g,j*4+2,none⟩ (.int .i64 c.2.2.1)).setCell ⟨g,j*4+3,none⟩ (.int .i64 c.2.2.2)) (some g):=by
 subst hn hy
 have h1:=World.ownsRow.stored (g:=g) (cap:=cap) h (j*4) (.int .i64 c.1)
 have h2:=World.ownsRow.stored (g:=g) (cap:=cap) h1.1 (j*4+1) (.int .i64 c.2.1)
 have h3:=World.ownsRow.stored (g:=g) (cap:=cap) h2.1 (j*4+2) (.int .i64 c.2.2.1)
 have h4:=World.ownsRow.stored (g:=g) (cap:=cap) h3.1 (j*4+3) (.int .i64 c.2.2.2)
 refine ⟨?_,aw (aw (aw (h1.2) h2.2) h3.2) h4.2⟩
 have e:((((xs.flatMap EN.cells).set (j*4) (.int .i64 c.1)).set (j*4+1) (.int .i64 c.2.1)).set (j*4+2) (.int .i64 c.2.2.1)).set (j*4+3) (.int .i64 c.2.2.2)=(xs.set j c).flatMap EN.cells:=by
  refine List.ext_getElem? fun t=>?_
  have hl:(xs.flatMap EN.cells).length=xs.length*4:=Rw.flat_len EN xs
  rw [Rw.flat_set EN xs j c hj]
  have hk:EN.k=4:=rfl
  rw [hk]
  rcases (show t=j*4∨t=j*4+1∨t=j*4+2∨t=j*4+3∨¬(j*4≤t∧t<j*4+4) by omega) with ht | ht | ht | ht | ht
  ·subst ht
   rw [List.getElem?_set_ne (by omega),List.getElem?_set_ne (by omega),List.getElem?_set_ne (by omega),List.getElem?_set_self (by first | omega | (simp only [List.length_set];omega)),if_pos (by omega),show j*4 - j*4=0 from by omega]
   rfl
  ·subst ht
   rw [List.getElem?_set_ne (by omega),List.getElem?_set_ne (by omega),List.getElem?_set_self (by first | omega | (simp only [List.length_set];omega)),if_pos (by omega),show j*4+1 - j*4=1 from by omega]
   rfl
  ·subst ht
   rw [List.getElem?_set_ne (by omega),List.getElem?_set_self (by first | omega | (simp only [List.length_set];omega)),if_pos (by omega),show j*4+2 - j*4=2 from by omega]
   rfl
  ·subst ht
   rw [List.getElem?_set_self (by first | omega | (simp only [List.length_set];omega)),if_pos (by omega),show j*4+3 - j*4=3 from by omega]
   rfl
  ·rw [List.getElem?_set_ne (by omega),List.getElem?_set_ne (by omega),List.getElem?_set_ne (by omega),List.getElem?_set_ne (by omega),if_neg ht]
 have h9:=h4.1
 rw [e] at h9
 unfold Rw.Own
 rw [List.length_set]
 exact h9
theorem lW {w:World} {base g n cap j:Nat} {xs:List (Int × Int × Int × Int)} {c:Int × Int × Int × Int} (hn:n=xs.length) (h:Rw.Own EN w base (.slice (some ⟨g,0,none⟩) n cap) xs) (hc:xs[j]?=some c) :
  w.cell? ⟨g,j*4,none⟩=some (.int .i64 c.1)∧w.cell? ⟨g,j*4+1,none⟩=some (.int .i64 c.2.1)∧w.cell? ⟨g,j*4+2,none⟩=some (.int .i64 c.2.2.1)∧w.cell? ⟨g,j*4+3,none⟩=some (.int .i64 c.2.2.2)∧w.frozen? ⟨g,j*4,none⟩=false∧w.frozen? ⟨g,j*4+1,none⟩=false∧w.frozen? ⟨g,j*4+2,none⟩=false∧w.frozen? ⟨g,j*4+3,none⟩=false:=by
 have e0:=h.cellAt hn (j*4) _ ((Rw.flat_get EN xs j 0 c hc (by decide)).trans rfl)
 have e1:=h.cellAt hn (j*4+1) _ ((Rw.flat_get EN xs j 1 c hc (by decide)).trans rfl)
 have e2:=h.cellAt hn (j*4+2) _ ((Rw.flat_get EN xs j 2 c hc (by decide)).trans rfl)
 have e3:=h.cellAt hn (j*4+3) _ ((Rw.flat_get EN xs j 3 c hc (by decide)).trans rfl)
 exact ⟨e0.1,e1.1,e2.1,e3.1,e0.2,e1.2,e2.2,e3.2⟩
theorem fG (v u:Value) (xs ys:List (Int × Int × Int × Int)) (w:World) (h1 h2:Nat) (hx:Rw.Seen EN w h1 v xs) (hy:Rw.Seen EN w h2 u ys) (hh1:h1≤w.heap.size) (hh2:h2≤w.heap.size) :
  Calls Tryz.prog 44 #[v,u] w fun e w'=>e=.returned (.bool (decide (xs=ys)))∧Below w.heap.size w w':=by
 obtain ⟨a,cap,rfl,hm,hm2,hv⟩:=hx
 obtain ⟨a',cap',rfl,hm',hm2',hv'⟩:=hy
 by_cases hl:xs.length=ys.length
 ·have hl':=Lib.hid hl
  rw [hl] at hv hm ⊢
  clear hl
  obtain ⟨n,hn⟩:∃ n,n=ys.length:=⟨_,rfl⟩
  rw [←hn] at hv hv' hm hm' ⊢
  have hn:=Lib.hid hn
  have hnm:(n:Int)≤9223372036854775807:=by omega
  go_enter Tryz.func44,Tryz.ntmps44
  go_wp2
  go_loopw [5] (fun vi wr=>∃ k:Nat,k≤n∧vi=.int .i64 k∧Hid (∀ j:Nat,j<k→xs[j]?=ys[j]?)∧Below w.heap.size w wr) (fun vi _=>n - (intOf vi).toNat)
  case atStart=>exact ⟨0,by omega,rfl,Lib.hid (fun j h=>by omega),Below.refl _ _⟩
  case round=>
   obtain ⟨k,hk,rfl,Hall,hbr⟩:=hrel
   by_cases hlt:k<n
   ·obtain ⟨g,x,rfl,hg,hx,hcell⟩:=hv k (by omega)
    obtain ⟨g',y,rfl,hg',hy,hcell'⟩:=hv' k hlt
    have e0_:wr.cell? ⟨g,k*4,none⟩=some (.int .i64 x.1):=(hbr.cell (p:=⟨g,k*4,none⟩) (Nat.lt_of_lt_of_le hg hh1)).trans (hcell 0 _ rfl)
    have e1_:wr.cell? ⟨g,k*4+1,none⟩=some (.int .i64 x.2.1):=(hbr.cell (p:=⟨g,k*4+1,none⟩) (Nat.lt_of_lt_of_le hg hh1)).trans (hcell 1 _ rfl)
    have e2_:wr.cell? ⟨g,k*4+2,none⟩=some (.int .i64 x.2.2.1):=(hbr.cell (p:=⟨g,k*4+2,none⟩) (Nat.lt_of_lt_of_le hg hh1)).trans (hcell 2 _ rfl)
    have e3_:wr.cell? ⟨g,k*4+3,none⟩=some (.int .i64 x.2.2.2):=(hbr.cell (p:=⟨g,k*4+3,none⟩) (Nat.lt_of_lt_of_le hg hh1)).trans (hcell 3 _ rfl)
    have f0_:wr.cell? ⟨g',k*4,none⟩=some (.int .i64 y.1):=(hbr.cell (p:=⟨g',k*4,none⟩) (Nat.lt_of_lt_of_le hg' hh2)).trans (hcell' 0 _ rfl)
    have f1_:wr.cell? ⟨g',k*4+1,none⟩=some (.int .i64 y.2.1):=(hbr.cell (p:=⟨g',k*4+1,none⟩) (Nat.lt_of_lt_of_le hg' hh2)).trans (hcell' 1 _ rfl)
    have f2_:wr.cell? ⟨g',k*4+2,none⟩=some (.int .i64 y.2.2.1):=(hbr.cell (p:=⟨g',k*4+2,none⟩) (Nat.lt_of_lt_of_le hg' hh2)).trans (hcell' 2 _ rfl)
    have f3_:wr.cell? ⟨g',k*4+3,none⟩=some (.int .i64 y.2.2.2):=(hbr.cell (p:=⟨g',k*4+3,none⟩) (Nat.lt_of_lt_of_le hg' hh2)).trans (hcell' 3 _ rfl)
    clear hv hv' hcell hcell'
    obtain ⟨x1,x2,x3,x4⟩:=x
    obtain ⟨y1,y2,y3,y4⟩:=y
    simp only [] at e0_ e1_ e2_ e3_ f0_ f1_ f2_ f3_
    have HE:=fun w=>fa x1 x2 x3 x4 y1 y2 y3 y4 w
    have hkk:((k:Nat):Int)<((n:Nat):Int):=by omega
    by_cases hxy:(x1,x2,x3,x4)=(y1,y2,y3,y4)
    ·have hd:decide ((x1,x2,x3,x4)=(y1,y2,y3,y4))=true:=decide_eq_true hxy
     simp only [hd] at HE
     have HE:=Lib.hid HE
     have hxy:=Lib.hid hxy
     clear hd
     go_upto_region 6 with fail
     refine Rg.walkT 10 [.is (.slice (some ⟨g,0,none⟩) n cap),.is (.int .i64 ((k:Nat):Int)),.is (.pointer (some ⟨g,k*4,none⟩)),.is (.agg #[.int .i64 x1,.int .i64 x2,.int .i64 x3,.int .i64 x4]),.is (.slice (some ⟨g',0,none⟩) n cap'),.is (.int .i64 ((k:Nat):Int)),.is (.pointer (some ⟨g',k*4,none⟩)),.is (.agg #[.int .i64 y1,.int .i64 y2,.int .i64 y3,.int .i64 y4]),.is (.bool true),.is (.bool false)] (by kernel_rfl) (by kernel_rfl) (by kernel_rfl) ⟨?_,?_,?_,?_,?_,?_,?_,?_,?_,?_,trivial⟩ ?_
     ·intro _ ac_ w_ hB hr
      have e0:ac_.tmps[0]?=some (.slice (some ⟨g,0,none⟩) n cap):=hr 0 (by decide)
      exact Rg.pure1 rfl (by go_simp)
     ·intro _ ac_ w_ hB hr
      have e5:ac_.tmps[5]?=some (.int .i64 ((k:Nat):Int)):=hr 5 (by decide)
      exact Rg.pure1 rfl (by go_simp)
     ·intro _ ac_ w_ hB hr
      have e17:=Rg.ev1 (hr 17 (by decide))
      have e18:=Rg.ev1 (hr 18 (by decide))
      exact Rg.pure1 rfl (by (first | (go_simp;done) | (go_simp;omega)))
     ·intro _ ac_ w_ hB hr
      have e19:=Rg.ev1 (hr 19 (by decide))
      have k0:=aE hB e0_
      have k1:=aE hB e1_
      have k2:=aE hB e2_
      have k3:=aE hB e3_
      exact Rg.pure1 rfl (by (first | (go_simp;done) | (go_simp;omega)))
     ·intro _ ac_ w_ hB hr
      have e1:ac_.tmps[1]?=some (.slice (some ⟨g',0,none⟩) n cap'):=hr 1 (by decide)
      exact Rg.pure1 rfl (by go_simp)
     ·intro _ ac_ w_ hB hr
      have e5:ac_.tmps[5]?=some (.int .i64 ((k:Nat):Int)):=hr 5 (by decide)
      exact Rg.pure1 rfl (by go_simp)
     ·intro _ ac_ w_ hB hr
      have e21:=Rg.ev1 (hr 21 (by decide))
      have e22:=Rg.ev1 (hr 22 (by decide))
      exact Rg.pure1 rfl (by (first | (go_simp;done) | (go_simp;omega)))
     ·intro _ ac_ w_ hB hr
      have e23:=Rg.ev1 (hr 23 (by decide))
      have k0:=aE hB f0_
      have k1:=aE hB f1_
      have k2:=aE hB f2_
      have k3:=aE hB f3_
      exact Rg.pure1 rfl (by (first | (go_simp;done) | (go_simp;omega)))
     ·intro _ ac_ w_ hB hr
      have e20:=Rg.ev1 (hr 20 (by decide))
      have e24:=Rg.ev1 (hr 24 (by decide))
      have ef:=Rg.ef ac_
      exact Rg.callIs rfl (by go_simp) (HE.out _)
     ·intro _ ac_ w_ hB hr
      have e25:=Rg.ev1 (hr 25 (by decide))
      exact Rg.pure1 rfl (by go_simp)
     ·intro vals wz hB hv hne
      have v_9:vals 9=.bool false:=hv 9 (by decide)
      simp only [List.take_succ_cons,List.take_zero,List.drop_succ_cons,List.drop_zero,Rg.fill,if_true,Act.put,List.setIfInBounds_toArray,List.set_cons_zero,List.set_cons_succ,Nat.zero_add,Nat.reduceAdd]
      clear hv
      simp only [v_9]
      clear v_9
      unfold Rg.tailWp
      go_wp2
      go_roundw
      case rel=>exact ⟨k+1,by omega,by go_num,Lib.hid (fun j hj=>if q:j=k then by rw [q,hx.out,hy.out,hxy.out] else Hall.out j (by omega)),hbr.trans (hB.mono hbr.size)⟩
      case measure=>simp [intOf] <;> omega
    ·have hd:decide ((x1,x2,x3,x4)=(y1,y2,y3,y4))=false:=decide_eq_false hxy
     simp only [hd] at HE
     have HE:=Lib.hid HE
     clear hd
     have hnq:decide (xs=ys)=false:=by
      rw [decide_eq_false_iff_not]
      intro he
      have h1:=hx.out
      rw [he,hy.out] at h1
      exact hxy (Option.some.inj h1).symm
     have hnq:=Lib.hid hnq
     have hxy:=Lib.hid hxy
     go_upto_region 6 with fail
     refine Rg.walkT 10 [.is (.slice (some ⟨g,0,none⟩) n cap),.is (.int .i64 ((k:Nat):Int)),.is (.pointer (some ⟨g,k*4,none⟩)),.is (.agg #[.int .i64 x1,.int .i64 x2,.int .i64 x3,.int .i64 x4]),.is (.slice (some ⟨g',0,none⟩) n cap'),.is (.int .i64 ((k:Nat):Int)),.is (.pointer (some ⟨g',k*4,none⟩)),.is (.agg #[.int .i64 y1,.int .i64 y2,.int .i64 y3,.int .i64 y4]),.is (.bool false),.is (.bool true)] (by kernel_rfl) (by kernel_rfl) (by kernel_rfl) ⟨?_,?_,?_,?_,?_,?_,?_,?_,?_,?_,trivial⟩ ?_
     ·intro _ ac_ w_ hB hr
      have e0:ac_.tmps[0]?=some (.slice (some ⟨g,0,none⟩) n cap):=hr 0 (by decide)
      exact Rg.pure1 rfl (by go_simp)
     ·intro _ ac_ w_ hB hr
      have e5:ac_.tmps[5]?=some (.int .i64 ((k:Nat):Int)):=hr 5 (by decide)
      exact Rg.pure1 rfl (by go_simp)
     ·intro _ ac_ w_ hB hr
      have e17:=Rg.ev1 (hr 17 (by decide))
      have e18:=Rg.ev1 (hr 18 (by decide))
      exact Rg.pure1 rfl (by (first | (go_simp;done) | (go_simp;omega)))
     ·intro _ ac_ w_ hB hr
      have e19:=Rg.ev1 (hr 19 (by decide))
      have k0:=aE hB e0_
      have k1:=aE hB e1_
      have k2:=aE hB e2_
      have k3:=aE hB e3_
      exact Rg.pure1 rfl (by (first | (go_simp;done) | (go_simp;omega)))
     ·intro _ ac_ w_ hB hr
      have e1:ac_.tmps[1]?=some (.slice (some ⟨g',0,none⟩) n cap'):=hr 1 (by decide)
      exact Rg.pure1 rfl (by go_simp)
     ·intro _ ac_ w_ hB hr
      have e5:ac_.tmps[5]?=some (.int .i64 ((k:Nat):Int)):=hr 5 (by decide)
      exact Rg.pure1 rfl (by go_simp)
     ·intro _ ac_ w_ hB hr
      have e21:=Rg.ev1 (hr 21 (by decide))
      have e22:=Rg.ev1 (hr 22 (by decide))
      exact Rg.pure1 rfl (by (first | (go_simp;done) | (go_simp;omega)))
     ·intro _ ac_ w_ hB hr
      have e23:=Rg.ev1 (hr 23 (by decide))
      have k0:=aE hB f0_
      have k1:=aE hB f1_
      have k2:=aE hB f2_
      have k3:=aE hB f3_
      exact Rg.pure1 rfl (by (first | (go_simp;done) | (go_simp;omega)))
     ·intro _ ac_ w_ hB hr
      have e20:=Rg.ev1 (hr 20 (by decide))
      have e24:=Rg.ev1 (hr 24 (by decide))
      have ef:=Rg.ef ac_
      exact Rg.callIs rfl (by go_simp) (HE.out _)
     ·intro _ ac_ w_ hB hr
      have e25:=Rg.ev1 (hr 25 (by decide))
      exact Rg.pure1 rfl (by go_simp)
     ·intro vals wz hB hv hne
      have v_9:vals 9=.bool true:=hv 9 (by decide)
      simp only [List.take_succ_cons,List.take_zero,List.drop_succ_cons,List.drop_zero,Rg.fill,if_true,Act.put,List.setIfInBounds_toArray,List.set_cons_zero,List.set_cons_succ,Nat.zero_add,Nat.reduceAdd]
      clear hv
      simp only [v_9]
      clear v_9
      unfold Rg.tailWp
      go_wp2
      go_ret
      exact ⟨ar hnq.out.symm,hbr.trans (hB.mono hbr.size)⟩
   ·obtain rfl:n=k:=by omega
    clear hv hv'
    have hall:decide (xs=ys)=true:=by
     rw [decide_eq_true_iff]
     refine List.ext_getElem? fun j=>?_
     rcases Nat.lt_or_ge j n with q | q
     ·exact Hall.out j q
     ·rw [List.getElem?_eq_none (l:=xs) (i:=j) (by have:=hl'.out;have:=hn.out;omega),List.getElem?_eq_none (l:=ys) (i:=j) (by have:=hn.out;omega)]
    have hall:=Lib.hid hall
    go_wp2
    go_ret
    exact ⟨ar hall.out.symm,hbr⟩
 ·have hne:Hid (decide (xs=ys)=false):=Lib.hid (by
   rw [decide_eq_false_iff_not]
   exact fun he=>hl (by rw [he]))
  have hl2:¬ ((xs.length:Int)=ys.length):=by omega
  clear hv hv'
  go_enter Tryz.func44,Tryz.ntmps44
  go_wp2
  go_ret
  exact ⟨ar hne.out.symm,(by repeat (first | exact Below.refl _ _ | refine aL ?_ _ | refine aM ?_ (by assumption) | refine Below.drew ?_ | refine Below.setCell ?_ (by first | exact Nat.le_refl _ | exact Nat.le_add_right _ _ | (simp <;> omega)) _ | refine aJ ?_ _))⟩
def M.imark (k:Int) (i:Nat):Int × Int × Int × Int:=(k+4*i,k+4*i+1,k+4*i+1+1,k+4*i+1+1+1)
def M.imarks (k:Int) (n:Nat):List (Int × Int × Int × Int):=(List.range n).map (M.imark k)
theorem M.imarks_len (k:Int) (n:Nat):(M.imarks k n).length=n:=by simp [M.imarks]
theorem M.imarks_get {k:Int} {n j:Nat} (h:j<n):(M.imarks k n)[j]?=some (M.imark k j):=by simp [M.imarks,h]
theorem M.imarks_step {k:Int} {j:Nat} {xs:List (Int × Int × Int × Int)} (h:j<xs.length):(M.imarks k j ++ xs.drop j).set j (M.imark k j)=M.imarks k (j+1) ++ xs.drop (j+1):=by
 have hl:=M.imarks_len k j
 rw [List.set_append_right _ _ (by omega)]
 rw [hl,Nat.sub_self,List.drop_eq_getElem_cons h,List.set_cons_zero]
 unfold M.imarks
 rw [List.range_succ,List.map_append]
 simp
theorem cZ (v:Value) (xs:List (Int × Int × Int × Int)) (k:Int) (w:World) (base:Nat) (hx:Rw.Own EN w base v xs) (h1:0≤k) (h2:k+4*xs.length≤4000000000000000000) :
  Calls Tryz.prog 45 #[v,.int .i64 k] w fun e w'=>e=.returned (.int .i64 (k+4*xs.length))∧Rw.Own EN w' base v (M.imarks k xs.length)∧w.grownBy w' v.ownBlock:=by
 rcases hx.forms with ⟨rfl,rfl⟩ | ⟨g,cap,rfl,hg,hgs,hc,hc2⟩
 ·go_enter Tryz.func45,Tryz.ntmps45
  go_wp2
  go_loop [1,5] (fun vk vi=>vk=.int .i64 k∧vi=.int .i64 0) (fun _ _=>0)
  case atStart=>exact ⟨rfl,rfl⟩
  case round=>
   obtain ⟨rfl,rfl⟩:=hrel
   go_wp2
   go_ret
   exact ⟨dg (by simp),hx,bc _ _⟩
 ·go_enter Tryz.func45,Tryz.ntmps45
  go_wp2
  go_loopw [1,5] (fun vk vi wr=>∃ j:Nat,j≤xs.length∧vi=.int .i64 j∧vk=.int .i64 (k+4*j)∧Rw.Own EN wr base (.slice (some ⟨g,0,none⟩) xs.length cap) (M.imarks k j ++ xs.drop j)∧w.grownBy wr (some g)) (fun _ vi _=>xs.length - (intOf vi).toNat)
  case atStart=>exact ⟨0,by omega,rfl,by simp,by simpa [M.imarks] using hx,bc _ _⟩
  case round=>
   obtain ⟨j,hj,rfl,rfl,hown,hgr⟩:=hrel
   have hlen:(M.imarks k j ++ xs.drop j).length=xs.length:=by rw [List.length_append,M.imarks_len,List.length_drop];omega
   by_cases hlt:j<xs.length
   ·have hj0:(M.imarks k j ++ xs.drop j)[j]?=some xs[j]:=by
     rw [List.getElem?_append_right (by rw [M.imarks_len];omega),M.imarks_len,Nat.sub_self,List.getElem?_drop]
     simp [hlt]
    obtain ⟨c0,c1,c2,c3,f0,f1,f2,f3⟩:=lW hlen.symm hown hj0
    have hst:=Lib.hid (mK hlen.symm hown hlt (M.imark k j) (M.imarks_step hlt).symm)
    generalize xs[j]=y at *
    clear hlen hj0
    go_wp2
    go_roundw
    case rel=>exact ⟨j+1,by omega,by go_num,by congr 1;omega,hst.out.1,aw hgr hst.out.2⟩
    case measure=>simp [intOf] <;> omega
   ·obtain rfl:j=xs.length:=by omega
    clear hlen
    go_wp2
    go_ret
    exact ⟨rfl,by simpa using hown,hgr⟩
theorem eD (v:Value) (n:Nat) (k:Int) (w:World) (base:Nat) (hx:Rw.Own EN w base v (M.imarks k n)) (h1:0≤k) (h2:k+4*n≤4000000000000000000) :
  Calls Tryz.prog 46 #[v,.int .i64 k] w fun e w'=>e=.returned (.int .i64 (k+4*n))∧Below w.heap.size w w':=by
 obtain ⟨a,cap,rfl,hm,hm2,hv⟩:=hx.seen
 rw [M.imarks_len] at hm hv ⊢
 go_enter Tryz.func46,Tryz.ntmps46
 go_wp2
 go_loop [1,5] (fun vk vi=>∃ j:Nat,j≤n∧vi=.int .i64 j∧vk=.int .i64 (k+4*j)) (fun _ vi=>n - (intOf vi).toNat)
 case atStart=>exact ⟨0,by omega,rfl,by simp⟩
 case round=>
  obtain ⟨j,hj,rfl,rfl⟩:=hrel
  by_cases hlt:j<n
  ·obtain ⟨g,x,rfl,hg,hx',hcell⟩:=hv j hlt
   rw [M.imarks_get hlt] at hx'
   obtain rfl:=Option.some.inj hx'.out
   have e0:w.cell? ⟨g,j*4,none⟩=some (.int .i64 (k+4*j)):=hcell 0 _ rfl
   have e1:w.cell? ⟨g,j*4+1,none⟩=some (.int .i64 (k+4*j+1)):=hcell 1 _ rfl
   have e2:w.cell? ⟨g,j*4+2,none⟩=some (.int .i64 (k+4*j+1+1)):=hcell 2 _ rfl
   have e3:w.cell? ⟨g,j*4+3,none⟩=some (.int .i64 (k+4*j+1+1+1)):=hcell 3 _ rfl
   clear hv hcell
   go_wp2
   go_round
   case rel=>exact ⟨j+1,by omega,by go_num,by congr 1;omega⟩
   case measure=>simp [intOf] <;> omega
  ·obtain rfl:j=n:=by omega
   clear hv
   go_wp2
   go_ret
   exact ⟨rfl,(by repeat (first | exact Below.refl _ _ | refine aL ?_ _ | refine aM ?_ (by assumption) | refine Below.drew ?_ | refine Below.setCell ?_ (by first | exact Nat.le_refl _ | exact Nat.le_add_right _ _ | (simp <;> omega)) _ | refine aJ ?_ _))⟩
def dT (w:World) (hi:Nat) (v:Value) (rows:IvM):Prop:=
 ∃ (a:Option Addr) (cap:Nat),v=.slice a rows.length cap∧(rows.length:Int)≤9223372036854775807∧
  ∀ k,k<rows.length→∃ g u r,a=some ⟨g,0,none⟩∧g<hi∧Hid (rows[k]?=some r)∧w.cell? ⟨g,k,none⟩=some u∧Rw.Seen EN w hi u r
theorem dT.below {w w':World} {hi:Nat} {v:Value} {rows:IvM} (h:dT w hi v rows) (hb:Below hi w w'):dT w' hi v rows:=by
 obtain ⟨a,cap,h1,h2,h3⟩:=h
 refine ⟨a,cap,h1,h2,fun k hk=>?_⟩
 obtain ⟨g,u,r,e1,e2,e3,e4,e5⟩:=h3 k hk
 exact ⟨g,u,r,e1,e2,e3,(hb.cell (p:=⟨g,k,none⟩) e2).trans e4,e5.below hb⟩
theorem aR.seen {w:World} {base:Nat} {v:Value} {vs:List Value} {rows:IvM} (h:aR w base v vs rows):dT w w.heap.size v rows:=by
 obtain ⟨a,cap,h1,h2,h3⟩:=h.view
 refine ⟨a,cap,h1,h2,fun k hk=>?_⟩
 obtain ⟨g,u,r,e1,e2,e3,-,e4,e5⟩:=h3 k hk
 exact ⟨g,u,r,e1,e2,e3,e4,e5.seen⟩
theorem bT.seen {w:World} {base:Nat} {v:Value} {rows:IvM} (h:bT w base v rows):dT w w.heap.size v rows:=h.elim fun _ k=>k.seen
theorem eR (v u:Value) (xs ys:IvM) (w:World) (h1 h2:Nat) (hx:dT w h1 v xs) (hy:dT w h2 u ys) (hh1:h1≤w.heap.size) (hh2:h2≤w.heap.size) :
  Calls Tryz.prog 20 #[v,u] w fun e w'=>e=.returned (.bool (decide (xs=ys)))∧Below w.heap.size w w':=by
 obtain ⟨a,cap,rfl,hm,hv⟩:=hx
 obtain ⟨a',cap',rfl,hm',hv'⟩:=hy
 by_cases hl:xs.length=ys.length
 ·have hl':=Lib.hid hl
  rw [hl] at hv hm ⊢
  clear hl
  obtain ⟨n,hn⟩:∃ n,n=ys.length:=⟨_,rfl⟩
  rw [←hn] at hv hv' hm hm' ⊢
  have hn:=Lib.hid hn
  go_enter Tryz.func20,Tryz.ntmps20
  go_wp2
  go_loopw [5] (fun vi wr=>∃ k:Nat,k≤n∧vi=.int .i64 k∧Hid (∀ j:Nat,j<k→xs[j]?=ys[j]?)∧Below w.heap.size w wr) (fun vi _=>n - (intOf vi).toNat)
  case atStart=>exact ⟨0,by omega,rfl,Lib.hid (fun j h=>by omega),Below.refl _ _⟩
  case round=>
   obtain ⟨k,hk,rfl,Hall,hbr⟩:=hrel
   by_cases hlt:k<n
   ·obtain ⟨g,z,r,rfl,hg,hr,hcell,hz⟩:=hv k (by omega)
    obtain ⟨g',z',r',rfl,hg',hr',hcell',hz'⟩:=hv' k hlt
    have e1_:=(hbr.cell (p:=⟨g,k,none⟩) (by show g<_;omega)).trans hcell
    have e2_:=(hbr.cell (p:=⟨g',k,none⟩) (by show g'<_;omega)).trans hcell'
    clear hv hv' hcell hcell'
    have E:=fun (w':World) (hb:Below wr.heap.size wr w')=>fG z z' r r' w' h1 h2 (hz.below ((hbr.mono hh1).trans (hb.mono (Nat.le_trans hh1 hbr.size)))) (hz'.below ((hbr.mono hh2).trans (hb.mono (Nat.le_trans hh2 hbr.size)))) (Nat.le_trans (Nat.le_trans hh1 hbr.size) hb.size) (Nat.le_trans (Nat.le_trans hh2 hbr.size) hb.size)
    have hkk:((k:Nat):Int)<((n:Nat):Int):=by omega
    by_cases hxy:r=r'
    ·have hd:decide (r=r')=true:=decide_eq_true hxy
     simp only [hd] at E
     have E:=Lib.hid E
     have hxy:=Lib.hid hxy
     clear hd
     go_upto_region 6 with fail
     refine Rg.walkT 10 [.is (.slice (some ⟨g,0,none⟩) n cap),.is (.int .i64 ((k:Nat):Int)),.is (.pointer (some ⟨g,k,none⟩)),.is (z),.is (.slice (some ⟨g',0,none⟩) n cap'),.is (.int .i64 ((k:Nat):Int)),.is (.pointer (some ⟨g',k,none⟩)),.is (z'),.is (.bool true),.is (.bool false)] (by kernel_rfl) (by kernel_rfl) (by kernel_rfl) ⟨?_,?_,?_,?_,?_,?_,?_,?_,?_,?_,trivial⟩ ?_
     ·intro _ ac_ w_ hB hr
      have e0:ac_.tmps[0]?=some (.slice (some ⟨g,0,none⟩) n cap):=hr 0 (by decide)
      exact Rg.pure1 rfl (by go_simp)
     ·intro _ ac_ w_ hB hr
      have e5:ac_.tmps[5]?=some (.int .i64 ((k:Nat):Int)):=hr 5 (by decide)
      exact Rg.pure1 rfl (by go_simp)
     ·intro _ ac_ w_ hB hr
      have e17:=Rg.ev1 (hr 17 (by decide))
      have e18:=Rg.ev1 (hr 18 (by decide))
      exact Rg.pure1 rfl (by (first | (go_simp;done) | (go_simp;omega)))
     ·intro _ ac_ w_ hB hr
      have e19:=Rg.ev1 (hr 19 (by decide))
      have k0:=aE hB e1_
      exact Rg.pure1 rfl (by (first | (go_simp;done) | (go_simp;omega)))
     ·intro _ ac_ w_ hB hr
      have e1:ac_.tmps[1]?=some (.slice (some ⟨g',0,none⟩) n cap'):=hr 1 (by decide)
      exact Rg.pure1 rfl (by go_simp)
     ·intro _ ac_ w_ hB hr
      have e5:ac_.tmps[5]?=some (.int .i64 ((k:Nat):Int)):=hr 5 (by decide)
      exact Rg.pure1 rfl (by go_simp)
     ·intro _ ac_ w_ hB hr
      have e21:=Rg.ev1 (hr 21 (by decide))
      have e22:=Rg.ev1 (hr 22 (by decide))
      exact Rg.pure1 rfl (by (first | (go_simp;done) | (go_simp;omega)))
     ·intro _ ac_ w_ hB hr
      have e23:=Rg.ev1 (hr 23 (by decide))
      have k0:=aE hB e2_
      exact Rg.pure1 rfl (by (first | (go_simp;done) | (go_simp;omega)))
     ·intro _ ac_ w_ hB hr
      have e20:=Rg.ev1 (hr 20 (by decide))
      have e24:=Rg.ev1 (hr 24 (by decide))
      have ef:=Rg.ef ac_
      exact Rg.callIs rfl (by go_simp) (E.out _ hB)
     ·intro _ ac_ w_ hB hr
      have e25:=Rg.ev1 (hr 25 (by decide))
      exact Rg.pure1 rfl (by go_simp)
     ·intro vals wz hB hv hne
      have v_9:vals 9=.bool false:=hv 9 (by decide)
      simp only [List.take_succ_cons,List.take_zero,List.drop_succ_cons,List.drop_zero,Rg.fill,if_true,Act.put,List.setIfInBounds_toArray,List.set_cons_zero,List.set_cons_succ,Nat.zero_add,Nat.reduceAdd]
      clear hv
      simp only [v_9]
      clear v_9
      unfold Rg.tailWp
      go_wp2
      go_roundw
      case rel=>exact ⟨k+1,by omega,by go_num,Lib.hid (fun j hj=>if q:j=k then by rw [q,hr.out,hr'.out,hxy.out] else Hall.out j (by omega)),hbr.trans (hB.mono hbr.size)⟩
      case measure=>simp [intOf] <;> omega
    ·have hd:decide (r=r')=false:=decide_eq_false hxy
     simp only [hd] at E
     have E:=Lib.hid E
     clear hd
     have hnq:decide (xs=ys)=false:=by
      rw [decide_eq_false_iff_not]
      intro he
      have h1:=hr.out
      rw [he,hr'.out] at h1
      exact hxy (Option.some.inj h1).symm
     have hnq:=Lib.hid hnq
     have hxy:=Lib.hid hxy
     go_upto_region 6 with fail
     refine Rg.walkT 10 [.is (.slice (some ⟨g,0,none⟩) n cap),.is (.int .i64 ((k:Nat):Int)),.is (.pointer (some ⟨g,k,none⟩)),.is (z),.is (.slice (some ⟨g',0,none⟩) n cap'),.is (.int .i64 ((k:Nat):Int)),.is (.pointer (some ⟨g',k,none⟩)),.is (z'),.is (.bool false),.is (.bool true)] (by kernel_rfl) (by kernel_rfl) (by kernel_rfl) ⟨?_,?_,?_,?_,?_,?_,?_,?_,?_,?_,trivial⟩ ?_
     ·intro _ ac_ w_ hB hr
      have e0:ac_.tmps[0]?=some (.slice (some ⟨g,0,none⟩) n cap):=hr 0 (by decide)
      exact Rg.pure1 rfl (by go_simp)
     ·intro _ ac_ w_ hB hr
      have e5:ac_.tmps[5]?=some (.int .i64 ((k:Nat):Int)):=hr 5 (by decide)
      exact Rg.pure1 rfl (by go_simp)
     ·intro _ ac_ w_ hB hr
      have e17:=Rg.ev1 (hr 17 (by decide))
      have e18:=Rg.ev1 (hr 18 (by decide))
      exact Rg.pure1 rfl (by (first | (go_simp;done) | (go_simp;omega)))
     ·intro _ ac_ w_ hB hr
      have e19:=Rg.ev1 (hr 19 (by decide))
      have k0:=aE hB e1_
      exact Rg.pure1 rfl (by (first | (go_simp;done) | (go_simp;omega)))
     ·intro _ ac_ w_ hB hr
      have e1:ac_.tmps[1]?=some (.slice (some ⟨g',0,none⟩) n cap'):=hr 1 (by decide)
      exact Rg.pure1 rfl (by go_simp)
     ·intro _ ac_ w_ hB hr
      have e5:ac_.tmps[5]?=some (.int .i64 ((k:Nat):Int)):=hr 5 (by decide)
      exact Rg.pure1 rfl (by go_simp)
     ·intro _ ac_ w_ hB hr
      have e21:=Rg.ev1 (hr 21 (by decide))
      have e22:=Rg.ev1 (hr 22 (by decide))
      exact Rg.pure1 rfl (by (first | (go_simp;done) | (go_simp;omega)))
     ·intro _ ac_ w_ hB hr
      have e23:=Rg.ev1 (hr 23 (by decide))
      have k0:=aE hB e2_
      exact Rg.pure1 rfl (by (first | (go_simp;done) | (go_simp;omega)))
     ·intro _ ac_ w_ hB hr
      have e20:=Rg.ev1 (hr 20 (by decide))
      have e24:=Rg.ev1 (hr 24 (by decide))
      have ef:=Rg.ef ac_
      exact Rg.callIs rfl (by go_simp) (E.out _ hB)
     ·intro _ ac_ w_ hB hr
      have e25:=Rg.ev1 (hr 25 (by decide))
      exact Rg.pure1 rfl (by go_simp)
     ·intro vals wz hB hv hne
      have v_9:vals 9=.bool true:=hv 9 (by decide)
      simp only [List.take_succ_cons,List.take_zero,List.drop_succ_cons,List.drop_zero,Rg.fill,if_true,Act.put,List.setIfInBounds_toArray,List.set_cons_zero,List.set_cons_succ,Nat.zero_add,Nat.reduceAdd]
      clear hv
      simp only [v_9]
      clear v_9
      unfold Rg.tailWp
      go_wp2
      go_ret
      exact ⟨ar hnq.out.symm,hbr.trans (hB.mono hbr.size)⟩
   ·obtain rfl:n=k:=by omega
    clear hv hv'
    have hall:decide (xs=ys)=true:=by
     rw [decide_eq_true_iff]
     refine List.ext_getElem? fun j=>?_
     rcases Nat.lt_or_ge j n with q | q
     ·exact Hall.out j q
     ·rw [List.getElem?_eq_none (l:=xs) (i:=j) (by have:=hl'.out;have:=hn.out;omega),List.getElem?_eq_none (l:=ys) (i:=j) (by have:=hn.out;omega)]
    have hall:=Lib.hid hall
    go_wp2
    go_ret
    exact ⟨ar hall.out.symm,hbr⟩
 ·have hne:Hid (decide (xs=ys)=false):=Lib.hid (by
   rw [decide_eq_false_iff_not]
   exact fun he=>hl (by rw [he]))
  have hl2:¬ ((xs.length:Int)=ys.length):=by omega
  clear hv hv'
  go_enter Tryz.func20,Tryz.ntmps20
  go_wp2
  go_ret
  exact ⟨ar hne.out.symm,Below.refl _ _⟩
def M.totN (rows:IvM):Nat:=(rows.map List.length).sum
def M.imarksL (k:Int):IvM→IvM
 | []=>[]
 | r :: rs=>M.imarks k r.length :: M.imarksL (k+4*r.length) rs
theorem M.totN_append (l m:IvM):M.totN (l ++ m)=M.totN l+M.totN m:=by simp [M.totN]
theorem M.imarksL_len (k:Int):∀ rows:IvM,(M.imarksL k rows).length=rows.length
 | []=>rfl
 | r :: rs=>by simp [M.imarksL,M.imarksL_len]
theorem M.imarksL_snoc (k:Int) (r:List (Int × Int × Int × Int)):∀ l:IvM,M.imarksL k (l ++ [r])=M.imarksL k l ++ [M.imarks (k+4*M.totN l) r.length]
 | []=>by simp [M.imarksL,M.totN]
 | q :: l=>by
  have e:k+(4*q.length:Int)+(4*M.totN l:Int)=k+(4*M.totN (q :: l):Int):=by
   have:M.totN (q :: l)=q.length+M.totN l:=by simp [M.totN]
   rw [this]
   push_cast
   omega
  simp only [List.cons_append,M.imarksL,M.imarksL_snoc _ r l]
  rw [e]
theorem M.take_snocN {rows:IvM} {j:Nat} {r:List (Int × Int × Int × Int)} (h:rows[j]?=some r):rows.take (j+1)=rows.take j ++ [r]:=by
 obtain ⟨hk,e⟩:=List.getElem?_eq_some_iff.1 h
 rw [List.take_succ_eq_append_getElem hk,e]
theorem M.imarksL_step {k:Int} {rows:IvM} {j:Nat} {r:List (Int × Int × Int × Int)} (h:rows[j]?=some r) :
  (M.imarksL k (rows.take j) ++ rows.drop j).set j (M.imarks (k+4*M.totN (rows.take j)) r.length)=M.imarksL k (rows.take (j+1)) ++ rows.drop (j+1):=by
 obtain ⟨hk,e⟩:=List.getElem?_eq_some_iff.1 h
 have hl:(M.imarksL k (rows.take j)).length=j:=by rw [M.imarksL_len,List.length_take];omega
 rw [List.set_append_right _ _ (by omega),hl,Nat.sub_self,List.drop_eq_getElem_cons hk,List.set_cons_zero,M.take_snocN h,M.imarksL_snoc]
 simp
theorem M.totN_le {rows:IvM} {j:Nat} {r:List (Int × Int × Int × Int)} (h:rows[j]?=some r):M.totN (rows.take j)+r.length≤M.totN rows:=by
 have e:rows=rows.take (j+1) ++ rows.drop (j+1):=(List.take_append_drop _ _).symm
 have h2:=congrArg M.totN e
 rw [M.totN_append,M.take_snocN h,M.totN_append] at h2
 have:M.totN [r]=r.length:=by simp [M.totN]
 omega
theorem aR.mark {w w':World} {base:Nat} {v:Value} {vs:List Value} {rows:IvM} {j:Nat} {u:Value} {r:List (Int × Int × Int × Int)} (h:aR w base v vs rows) (hj:vs[j]?=some u) (hu:Rw.Own EN w' base u r) (hg:w.grownBy w' u.ownBlock):aR w' base v vs (rows.set j r):=by
 obtain ⟨h1,h2,h3,h4⟩:=h
 have hjl:=(List.getElem?_eq_some_iff.1 hj).1
 have hur:=h3 j u _ hj (List.getElem?_eq_getElem (by omega))
 refine ⟨by rw [List.length_set];exact World.ownsRow.kept h1 hg (by
   cases hb:u.ownBlock with
   | none=>cases hv:v.ownBlock <;> simp
   | some g=>exact Or.inr (dm (t1:=64) (t2:=38) h1 hur neN g hb)),by rw [List.length_set];exact h2,fun i z q hz hq=>?_,h4⟩
 by_cases hij:j=i
 ·subst hij
  rw [hj] at hz
  rw [List.getElem?_set_self (by omega)] at hq
  obtain rfl:=Option.some.inj hz
  obtain rfl:=Option.some.inj hq
  exact hu
 ·rw [List.getElem?_set_ne hij] at hq
  refine (h3 i z q hz hq).kept hg fun g hb=>?_
  have hil:=(List.getElem?_eq_some_iff.1 hz).1
  obtain ⟨_,ez⟩:=List.getElem?_eq_some_iff.1 hz
  obtain ⟨_,ej⟩:=List.getElem?_eq_some_iff.1 hj
  have hp:=List.pairwise_iff_getElem.1 h4
  rcases Nat.lt_or_gt_of_ne hij with hlt | hlt
  ·have:=hp j i hjl hil hlt g (by rw [ej];exact hb)
   rwa [ez] at this
  ·intro hzb
   have:=hp i j hil hjl hlt g (by rw [ez];exact hzb)
   rw [ej] at this
   exact this hb
theorem dl (v:Value) (vs:List Value) (rows:IvM) (k:Int) (w:World) (base:Nat) (hx:aR w base v vs rows) (hB:base≤w.heap.size) (h1:0≤k) (h2:k+4*M.totN rows≤4000000000000000000) :
  Calls Tryz.prog 22 #[v,.int .i64 k] w fun e w'=>e=.returned (.int .i64 (k+4*M.totN rows))∧aR w' base v vs (M.imarksL k rows)∧Below base w w':=by
 obtain ⟨a,cap,rfl,hm,-⟩:=hx.view
 go_enter Tryz.func22,Tryz.ntmps22
 go_wp2
 go_loopw [1,5] (fun vk vi wr=>∃ j:Nat,j≤rows.length∧vi=.int .i64 j∧vk=.int .i64 (k+4*M.totN (rows.take j))∧aR wr base (.slice a rows.length cap) vs (M.imarksL k (rows.take j) ++ rows.drop j)∧Below base w wr) (fun _ vi _=>rows.length - (intOf vi).toNat)
 case atStart=>exact ⟨0,by omega,rfl,by simp [M.totN],by simpa [M.imarksL] using hx,Below.refl _ _⟩
 case round=>
  obtain ⟨j,hj,rfl,rfl,hown,hbr⟩:=hrel
  have hlen:Hid ((M.imarksL k (rows.take j) ++ rows.drop j).length=rows.length):=Lib.hid (by rw [List.length_append,M.imarksL_len,List.length_take,List.length_drop];omega)
  by_cases hlt:j<rows.length
  ·obtain ⟨a',cap',he,hm',hv⟩:=hown.view
   rw [hlen.out] at he hv
   injection he with he1 he2 he3
   subst he1 he3
   clear he2
   obtain ⟨g,u,r,rfl,hg,hr,hu,hcell,hur⟩:=hv j hlt
   have hr':Hid (rows[j]?=some r):=Lib.hid (by
    have:=hr.out
    rw [List.getElem?_append_right (by rw [M.imarksL_len,List.length_take];omega),M.imarksL_len,List.length_take,Nat.min_eq_left (by omega),List.getElem?_drop] at this
    simpa using this)
   have htl:=M.totN_le hr'.out
   have hM:=Lib.hid fun w=>cZ u r (k+4*M.totN (rows.take j)) wr base hur (by omega) (by omega)
   clear hv
   go_wp2_with (go_at_call 45;(with_reducible refine (cZ u r _ _ base hur (by omega) (by omega)).mono ?_);rintro e w2 ⟨rfl,hu2,hg2⟩)
   go_roundw
   case rel=>
    refine ⟨j+1,by omega,by go_num,?_,?_,hbr.grown hg2 (Nat.le_trans hB hbr.size) fun k hk=>(World.ownsRow.lt hur k hk).1⟩
    ·rw [M.take_snocN hr'.out,M.totN_append]
     have:M.totN [r]=r.length:=by simp [M.totN]
     rw [this]
     congr 1
     push_cast
     omega
    ·rw [←M.imarksL_step hr'.out]
     exact hown.mark hu.out hu2 hg2
   case measure=>simp [intOf];omega
  ·obtain rfl:j=rows.length:=by omega
   have e1:Hid (rows.take rows.length=rows):=Lib.hid (List.take_length)
   have e2:Hid (rows.drop rows.length=[]):=Lib.hid (by simp)
   go_wp2
   go_ret
   exact ⟨by rw [e1.out];rfl,by have:=hown;rw [e1.out,e2.out,List.append_nil] at this;exact this,hbr⟩
theorem dp (v:Value) (vs:List Value) (rows:IvM) (k:Int) (w:World) (base:Nat) (hx:aR w base v vs (M.imarksL k rows)) (h1:0≤k) (h2:k+4*M.totN rows≤4000000000000000000) :
  Calls Tryz.prog 23 #[v,.int .i64 k] w fun e w'=>e=.returned (.int .i64 (k+4*M.totN rows))∧Below w.heap.size w w':=by
 obtain ⟨a,cap,rfl,hm,hv⟩:=hx.view
 rw [M.imarksL_len] at hm hv ⊢
 go_enter Tryz.func23,Tryz.ntmps23
 go_wp2
 go_loopw [1,5] (fun vk vi wr=>∃ j:Nat,j≤rows.length∧vi=.int .i64 j∧vk=.int .i64 (k+4*M.totN (rows.take j))∧Below w.heap.size w wr) (fun _ vi _=>rows.length - (intOf vi).toNat)
 case atStart=>exact ⟨0,by omega,rfl,by simp [M.totN],Below.refl _ _⟩
 case round=>
  obtain ⟨j,hj,rfl,rfl,hbr⟩:=hrel
  by_cases hlt:j<rows.length
  ·obtain ⟨g,u,r,rfl,hg,hr,hu,hcell,hur⟩:=hv j hlt
   have hr':rows[j]?=some rows[j]:=List.getElem?_eq_getElem hlt
   have hmr:Hid (r=M.imarks (k+4*M.totN (rows.take j)) rows[j].length):=Lib.hid (by
    have h1:=hr.out
    have e:M.imarksL k rows=(M.imarksL k (rows.take j) ++ [M.imarks (k+4*M.totN (rows.take j)) rows[j].length]) ++ (M.imarksL k rows).drop (j+1):=by
     have h3:=M.imarksL_snoc k rows[j] (rows.take j)
     rw [←M.take_snocN hr'] at h3
     rw [←h3]
     have h4:∀ (l:IvM) (k:Int) (n:Nat),M.imarksL k (l.take n)=(M.imarksL k l).take n:=by
      intro l
      induction l with
      | nil=>intro k n;simp [M.imarksL]
      | cons q l ih=>intro k n;cases n with
       | zero=>simp [M.imarksL]
       | succ n=>simp [M.imarksL,ih]
     rw [h4]
     exact (List.take_append_drop _ _).symm
    rw [e,List.getElem?_append_left (by rw [List.length_append,M.imarksL_len,List.length_take];simp;omega),List.getElem?_append_right (by rw [M.imarksL_len,List.length_take];omega),M.imarksL_len,List.length_take,Nat.min_eq_left (by omega),Nat.sub_self] at h1
    simpa using h1.symm)
   have htl:=M.totN_le hr'
   have hur2:Rw.Own EN wr base u (M.imarks (k+4*M.totN (rows.take j)) rows[j].length):=by rw [←hmr.out];exact hur.below hbr
   have e1:=aE hbr hcell
   have hr':=Lib.hid hr'
   clear hv hcell
   generalize rows[j]=q at *
   go_wp2_with (go_at_call 46;(with_reducible refine (eD u _ _ _ base hur2 (by omega) (by omega)).mono ?_);rintro e w2 ⟨rfl,hb2⟩)
   go_roundw
   case rel=>
    refine ⟨j+1,by omega,by go_num,?_,aM hbr hb2⟩
    rw [M.take_snocN hr'.out,M.totN_append]
    have:M.totN [q]=q.length:=by simp [M.totN]
    rw [this]
    congr 1
    push_cast
    omega
   case measure=>simp [intOf];omega
  ·obtain rfl:j=rows.length:=by omega
   have e1:Hid (rows.take rows.length=rows):=Lib.hid (List.take_length)
   clear hv
   go_wp2
   go_ret
   exact ⟨by rw [e1.out];rfl,hbr⟩
theorem aR.keptR {w w':World} {base:Nat} {r:Option Nat} {v:Value} {vs:List Value} {rows:IvM} (h:aR w base v vs rows) (hg:w.grownBy w' r) (hlt:∀ k,r=some k→k<base):aR w' base v vs rows:=by
 obtain ⟨h1,h2,h3,h4⟩:=h
 refine ⟨World.ownsRow.kept h1 hg ?_,h2,fun i u q hu hq=>World.ownsRow.kept (h3 i u q hu hq) hg ?_,h4⟩
 ·cases hb:v.ownBlock with
  | none=>exact Or.inl rfl
  | some k=>exact Or.inr (fun he=>by
    have h5:=(World.ownsRow.lt h1 k hb).1
    have:=hlt k he.symm
    omega)
 ·cases hb:u.ownBlock with
  | none=>exact Or.inl rfl
  | some k=>exact Or.inr (fun he=>by
    have h5:=(World.ownsRow.lt (h3 i u q hu hq) k hb).1
    have:=hlt k he.symm
    omega)
theorem M.totN_le4:∀ m:IvM,(∀ r ∈ m,r.length≤4)→M.totN m≤4*m.length
 | [],_=>by simp [M.totN]
 | r :: m,h=>by
  have h1:=h r (List.mem_cons_self ..)
  have h2:=M.totN_le4 m (fun x hx=>h x (List.mem_cons_of_mem _ hx))
  have e:M.totN (r :: m)=r.length+M.totN m:=by simp [M.totN]
  rw [e,List.length_cons];omega
theorem M.matV_tot (a b:Int) (l:List Pt):M.totN (M.matV a b l)≤16:=by
 cases h:M.matOk a b l with
 | false=>rw [M.matV_no h];simp [M.totN]
 | true=>
  rw [M.matV_yes h]
  unfold M.matOk at h
  rw [Bool.and_eq_true] at h
  obtain ⟨-,h1,h4,-⟩:=M.plist_is h.1
  have hs:=M.pRows_sq h.2
  have h5:=M.totN_le4 (M.ivM (M.pRows a b l)) (fun r hr=>by
   unfold M.ivM at hr
   obtain ⟨q,hq,rfl⟩:=List.mem_map.1 hr
   rw [List.length_map]
   have:=hs.2 q hq
   omega)
  rw [M.ivM_len] at h5
  have:=hs.1
  omega
theorem law_PairingMatrix (a b:Int) (_:M.I64 a) (_:M.I64 b) (v:Value) (xs:List Pt) (w:World) (hx:bK w v xs) :
  Calls Tryz.prog 5 #[.agg #[.int .i64 a,.int .i64 b],v] w fun e w'=>e=.returned (.bool true)∧Below w.heap.size w w':=by
 have e1:=fun v w h hn=>dH a b v xs w h hn
 have e2:=fun v w h hn=>dI a b v xs w h hn
 have hl:=M.matV_tot a b xs
 generalize M.matV a b xs=V at *
 generalize M.matOk a b xs=ok at *
 have E1:=Lib.hid e1
 have E2:=Lib.hid e2
 clear e1 e2
 have TCu:=Lib.hid fun w=>iK a b w
 have hd2:decide (xs=xs)=true:=by simp
 have EQ:=fun v u w h1 h2 hx hy p q=>iA v u xs xs w h1 h2 hx hy p q
 rw [hd2] at EQ
 have EQ:=Lib.hid EQ
 clear hd2
 have hd:decide (V=V)=true:=by simp
 have EV:=fun v u w h1 h2 hx hy p q=>eR v u V V w h1 h2 hx hy p q
 rw [hd] at EV
 have EV:=Lib.hid EV
 clear hd
 have Hx:=Lib.hid hx
 by_cases hn:xs.length≤1048576
 ·have hL:0≤(1048576:Int) - xs.length:=by omega
  obtain ⟨A,cap,rfl,-,-⟩:=hx
  have TC:=fun w (h:bK w (.slice A xs.length cap) xs)=>iH (.slice A xs.length cap) xs w h hn
  have TC:=Lib.hid TC
  have HS:=fun w (h:bK w (.slice A xs.length cap) xs)=>et (.slice A xs.length cap) xs w h
  simp only [if_pos hn] at HS
  have HS:=Lib.hid HS
  have MK:=fun v w base (h:Rw.Own EPt w base v xs)=>ff v xs 1 w base h (by decide) (by omega)
  have hk0:(0:Int)≤1+3*xs.length:=by omega
  have hm0:(0:Int)≤1+4*M.totN V:=by omega
  have MV:=fun v vs w base (h:aR w base v vs V) hB=>dl v vs V 1 w base h hB (by decide) (by omega)
  have HV:=fun v vs w base (h:aR w base v vs (M.imarksL 1 V))=>dp v vs V 1 w base h (by decide) (by omega)
  have hn4:xs.length≤4000000:=by omega
  have MK:=Lib.hid MK
  have MV:=Lib.hid MV
  have HV:=Lib.hid HV
  have B:=(Below.refl w.heap.size w).alloc (Nat.le_refl _) (.cells #[.int .i64 a,.int .i64 b] 23)
  have C:=aG.new w #[.int .i64 a,.int .i64 b] 23
  generalize hw3:w.alloc (.cells #[.int .i64 a,.int .i64 b] 23)=wc at *
  have k0:=C.box.c0
  have k1:=C.box.c1
  generalize hKe:(1:Int)+3*xs.length=K1 at *
  generalize hMe:(1:Int)+4*M.totN V=M1 at *
  clear hKe hMe
  generalize xs.length=L at *
  generalize hM:(1048576:Int) - L=M0 at *
  go_enter Tryz.func5,Tryz.ntmps5
  go_wp2_with fail
  refine (HS.out _ (Hx.out.keep B)).mono ?_;rintro e w0 ⟨rfl,rfl⟩
  go_wp2_with fail
  refine (TCu.out _).mono ?_;rintro e w1 ⟨rfl,b1⟩
  replace B:=B.trans (b1.mono B.size)
  replace C:=C.keep b1
  clear k0 k1
  go_wp2_with fail
  refine (TC.out _ (Hx.out.keep B)).mono ?_;rintro e w2 ⟨v2,rfl,o2,b2⟩
  replace B:=B.trans (b2.mono B.size)
  replace C:=C.keep b2
  go_wp2_with fail
  refine (E1.out _ _ o2.seen.pts hn4).mono ?_;rintro e w3 ⟨u0,rfl,ho,b3⟩
  replace B:=B.trans (b3.mono B.size)
  replace C:=C.keep b3
  have h3:=B.size
  have s:=ho.seen
  have G:=Below.refl w3.heap.size w3
  clear ho o2
  go_wp2_with fail
  refine (TC.out _ (Hx.out.keep B)).mono ?_;rintro e w4 ⟨v4,rfl,o4,b4⟩
  replace B:=B.trans (b4.mono B.size)
  replace G:=G.trans (b4.mono G.size)
  have zG:=G.size
  have hlt4:∀ k,v4.ownBlock=some k→w3.heap.size≤k∧k<w4.heap.size:=fun k hk=>World.ownsRow.lt o4 k hk
  have k0:=(C.keep G).box.c0
  have k1:=(C.keep G).box.c1
  go_wp2_with fail
  refine (TCu.out _).mono ?_;rintro e w5 ⟨rfl,b5⟩
  replace B:=B.trans (b5.mono B.size)
  replace G:=G.trans (b5.mono G.size)
  have zG:=G.size
  replace o4:=o4.below b5
  have z5:=b5.size
  clear k0 k1
  go_wp2_with fail
  refine (E2.out _ _ o4.seen.pts hn4).mono ?_;rintro e w6 ⟨u1,rfl,⟨vs,p⟩,b6⟩
  replace B:=B.trans (b6.mono B.size)
  replace G:=G.trans (b6.mono G.size)
  have zG:=G.size
  replace o4:=o4.below b6
  have z6:=b6.size
  have hb5:w3.heap.size≤w5.heap.size:=Nat.le_trans (Nat.le_trans b4.size b5.size) (Nat.le_refl _)
  go_wp2_with fail
  refine (EV.out _ _ _ _ _ p.seen (s.below G) (Nat.le_refl _) zG).mono ?_;rintro e w7 ⟨rfl,b7⟩
  replace B:=B.trans (b7.mono B.size)
  replace G:=G.trans (b7.mono G.size)
  have zG:=G.size
  replace o4:=o4.below b7
  replace p:=p.below b7
  go_wp2_with fail
  refine (TC.out _ (Hx.out.keep B)).mono ?_;rintro e w8 ⟨v8,rfl,o8,b8⟩
  replace B:=B.trans (b8.mono B.size)
  replace G:=G.trans (b8.mono G.size)
  have zG:=G.size
  replace o4:=o4.below b8
  replace p:=p.below b8
  go_wp2_with fail
  refine (EQ.out _ _ _ _ _ o4.seen o8.seen (Nat.le_refl _) (Nat.le_refl _)).mono ?_;rintro e w9 ⟨rfl,b9⟩
  replace B:=B.trans (b9.mono B.size)
  replace G:=G.trans (b9.mono G.size)
  have zG:=G.size
  replace o4:=o4.below b9
  replace p:=p.below b9
  clear o8
  go_wp2_with fail
  refine (MK.out _ _ _ o4).mono ?_;rintro e w10 ⟨rfl,-,hg⟩
  have b10:Below w3.heap.size w9 w10:=ay hg zG (fun k hk=>(hlt4 k hk).1)
  replace B:=B.trans (b10.mono h3)
  replace G:=G.trans b10
  replace zG:=G.size
  replace p:=p.keptR hg (fun k hk=>Nat.lt_of_lt_of_le (hlt4 k hk).2 b5.size)
  clear o4 hg
  go_wp2_with fail
  refine (EV.out _ _ _ _ _ p.seen (s.below G) (Nat.le_refl _) zG).mono ?_;rintro e w11 ⟨rfl,b11⟩
  replace B:=B.trans (b11.mono B.size)
  replace G:=G.trans (b11.mono G.size)
  have zG:=G.size
  replace p:=p.below b11
  have zq:w5.heap.size≤w11.heap.size:=by have:=b7.size;have:=b8.size;have:=b9.size;have:=b10.size;have:=b11.size;omega
  go_wp2_with fail
  refine (MV.out _ _ _ _ p zq).mono ?_;rintro e w12 ⟨rfl,q,b12⟩
  replace B:=B.trans (b12.mono (Nat.le_trans h3 hb5))
  replace G:=G.trans (b12.mono hb5)
  replace zG:=G.size
  clear p
  go_wp2_with fail
  refine (HV.out _ _ _ _ q).mono ?_;rintro e w13 ⟨rfl,b13⟩
  replace B:=B.trans (b13.mono B.size)
  replace G:=G.trans (b13.mono G.size)
  have zG:=G.size
  replace q:=q.below b13
  have k0:=(C.keep G).box.c0
  have k1:=(C.keep G).box.c1
  go_wp2_with fail
  refine (TCu.out _).mono ?_;rintro e w14 ⟨rfl,b14⟩
  replace B:=B.trans (b14.mono B.size)
  replace G:=G.trans (b14.mono G.size)
  have zG:=G.size
  replace q:=q.below b14
  clear k0 k1
  go_wp2_with fail
  refine (TC.out _ (Hx.out.keep B)).mono ?_;rintro e w15 ⟨v15,rfl,o15,b15⟩
  replace B:=B.trans (b15.mono B.size)
  replace G:=G.trans (b15.mono G.size)
  have zG:=G.size
  replace q:=q.below b15
  go_wp2_with fail
  refine (E2.out _ _ o15.seen.pts hn4).mono ?_;rintro e w16 ⟨u2,rfl,hw,b16⟩
  replace B:=B.trans (b16.mono B.size)
  replace G:=G.trans (b16.mono G.size)
  have zG:=G.size
  replace q:=q.below b16
  go_wp2_with fail
  refine (EV.out _ _ _ _ _ hw.seen (s.below G) (Nat.le_refl _) zG).mono ?_;rintro e w17 ⟨rfl,b17⟩
  replace B:=B.trans (b17.mono B.size)
  replace G:=G.trans (b17.mono G.size)
  have zG:=G.size
  replace q:=q.below b17
  go_wp2_with fail
  refine (HV.out _ _ _ _ q).mono ?_;rintro e w18 ⟨rfl,b18⟩
  replace B:=B.trans (b18.mono B.size)
  go_wp2_with fail
  go_ret
  exact ⟨by simp,B⟩
 ·obtain ⟨A,cap,rfl,-,-⟩:=hx
  have HS:=fun w (h:bK w (.slice A xs.length cap) xs)=>et (.slice A xs.length cap) xs w h
  simp only [if_neg hn] at HS
  have HS:=Lib.hid HS
  have B:=(Below.refl w.heap.size w).alloc (Nat.le_refl _) (.cells #[.int .i64 a,.int .i64 b] 23)
  replace Hx:=Lib.hid (Hx.out.keep B)
  generalize hw3:w.alloc (.cells #[.int .i64 a,.int .i64 b] 23)=wc at *
  generalize xs.length=L at *
  go_enter Tryz.func5,Tryz.ntmps5
  go_wp2_with fail
  refine (HS.out _ Hx.out).mono ?_;rintro e w0 ⟨rfl,rfl⟩
  go_wp2
  go_ret
  exact ⟨rfl,B⟩
end
end Go.Proofs.YthfjndmdalfloaaGreat
