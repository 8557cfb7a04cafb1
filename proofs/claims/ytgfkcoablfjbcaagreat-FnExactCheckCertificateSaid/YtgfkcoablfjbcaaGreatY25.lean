/-
  Joined texts: contracts and plain lemmas.
-/
import Derived.Test.YtgfkcoablfjbcaaGreatY1
import Derived.Test.YtgfkcoablfjbcaaGreatY24
import Derived.Test.YtgfkcoablfjbcaaGreatY23
import Derived.Test.YtgfkcoablfjbcaaGreatShG
set_option linter.unusedSimpArgs false
set_option linter.unusedVariables false
set_option maxRecDepth 100000
set_option maxHeartbeats 8000000
namespace Go.Proofs.YtgfkcoablfjbcaaGreat
section
open Go.RowKit
theorem mn (gm n:Nat):d8 gm n n=((List.range n).map fun i=>Value.slice (some ⟨gm+1+i,0,none⟩) n n).toArray:=by
 unfold d8
 congr 1
 apply List.map_congr_left
 intro i hi
 rw [if_pos (List.mem_range.1 hi)]
theorem iR (a b:Int) (v:Value) (l:List Pt) (w:World) (hx:eG w v l) (hg:M.good a b=true) (hn:l.length≤4) (hp:∀ p ∈ l,M.bS a b p.1 p.2.1 p.2.2=true) :
  Calls Tryz.prog 58 #[.agg #[.int .i64 a,.int .i64 b],v] w fun e w'=>∃ mv,e=.returned (.tuple #[mv,.bool (M.mOk a b l)])∧di w' w.heap.size mv (M.dg a b l)∧Below w.heap.size w w':=by
 have hin:=M.bI hg
 obtain ⟨sa,cap,rfl,hv⟩:=hx
 have hv:=ws hv
 have hp:=ws hp
 obtain ⟨N,hN⟩:∃ N,Hid (l.length=N):=⟨_,ws rfl⟩
 rw [hN.out] at hn ⊢
 have hmk:=fun W=>uI W N hn
 have hms:=fun W=>sk W N hn
 have B:=((ww w.heap.size w).alloc (xA _) (.cells #[.int .i64 a,.int .i64 b] 29)).alloc (by rw [wt];omega) (.cells (Array.replicate N (Value.slice none 0 0)) 110)
 have C:=(aH.new w #[.int .i64 a,.int .i64 b] 29).alloc (.cells (Array.replicate N (Value.slice none 0 0)) 110)
 have G:=aH.new (w.alloc (.cells #[.int .i64 a,.int .i64 b] 29)) (Array.replicate N (Value.slice none 0 0)) 110
 rw [wt] at G
 have hz:((w.alloc (.cells #[.int .i64 a,.int .i64 b] 29)).alloc (.cells (Array.replicate N (Value.slice none 0 0)) 110)).heap.size=w.heap.size+1+1:=by rw [wt,wt]
 generalize hw3:(w.alloc (.cells #[.int .i64 a,.int .i64 b] 29)).alloc (.cells (Array.replicate N (Value.slice none 0 0)) 110)=wc at *
 have hr0:Array.replicate N (Value.slice none 0 0)=d8 (w.heap.size+1) N 0:=by rw [mr,List.toArray_replicate]
 rw [hr0] at G
 clear hr0
 go_enter Tryz.func58,Tryz.ntmps58
 go_wp2
 go_loopw [20] (fun vk wr=>∃ k:Nat,k≤N∧vk=.int .i64 k∧aH wr (w.heap.size+1) 110 (d8 (w.heap.size+1) N k)∧wr.heap.size=w.heap.size+1+1+k∧(∀ i,i<k→aH wr (w.heap.size+1+1+i) 68 (bk (List.replicate N (0,0))))∧aH wr w.heap.size 29 #[.int .i64 a,.int .i64 b]∧Below w.heap.size w wr) (fun vk _=>N - (intOf vk).toNat)
 case atStart=>exact ⟨0,Nat.zero_le _,rfl,G,hz,fun i h=>absurd h (by omega),C,B⟩
 case round=>
 clear C B G hz hw3
 obtain ⟨k,hk,rfl,G,hz,hrow,C,B⟩:=hrel
 by_cases hlt:k<N
 ·have Gb:=G.lt
  have G2:=G.alloc (.cells (bk (List.replicate N (0,0))) 68)
  have g0:=(G2.cell k).trans (qe hlt)
  have gf:=G2.frz k
  have Gn:=aH.new wr (bk (List.replicate N (0,0))) 68
  have C2:=C.alloc (.cells (bk (List.replicate N (0,0))) 68)
  have B2:=B.alloc B.size (.cells (bk (List.replicate N (0,0))) 68)
  go_wp2
  go_roundw
  case rel=>
   refine ⟨k+1,by omega,by go_num,?_,?_,fun i hi2=>?_,C2.other (by omega) _,wu B2 (by simp) _⟩
   ·rw [←mo hlt,←hz]
    exact G2.set k _
   ·rw [aZ,wt];omega
   rcases Nat.lt_or_ge i k with q | q
   ·exact ((hrow i q).alloc _).other (by omega) _
   obtain rfl:i=k:=by omega
   rw [←hz]
   exact Gn.other (by omega) _
  case measure=>simp [intOf] <;> omega
 obtain rfl:N=k:=by omega
 have hG:dq wr (w.heap.size+1) N (List.replicate N (List.replicate N (0,0))):=by
  refine ⟨List.length_replicate,by rw [←mn];exact G,fun i r hr=>?_⟩
  have hi:i<N:=by
   have:=(List.getElem?_eq_some_iff.1 hr).1
   rw [List.length_replicate] at this
   exact this
  rw [List.getElem?_replicate,if_pos hi] at hr
  have e:=Option.some.inj hr
  subst e
  exact ⟨List.length_replicate,hrow i hi⟩
 rw [M.qn _ (M.fe a b l)] at hG
 clear G hrow hz hmk hms hlt
 have hno:=ws fun i j h1 h2 h=>M.sd (a:=a) (b:=b) (l:=l) (i:=i) (j:=j) h1 h2 h
 have hrn:=ws fun h=>M.sp (a:=a) (b:=b) (l:=l) h
 go_wp2
 go_loopw [32] (fun vi wq=>∃ i:Nat,i≤N∧vi=.int .i64 i∧Hid (∀ i',i'<i→∀ j,j<l.length→(M.ent a b l i' j).isSome=true)∧Hid (dq wq (w.heap.size+1) N (M.cn N (M.done i i) (M.fe a b l)))∧aH wq w.heap.size 29 #[.int .i64 a,.int .i64 b]∧Below w.heap.size w wq) (fun vi _=>N - (intOf vi).toNat)
 case atStart=>exact ⟨0,Nat.zero_le _,rfl,ws (fun i' h=>absurd h (by omega)),ws hG,C,B⟩
 case round=>
 clear C B hG
 obtain ⟨i,hi,rfl,hall,hG,C,B⟩:=hrel
 by_cases hlt:i<N
 ·obtain ⟨x,hx⟩:∃ x,l[i]?=some x:=⟨_,List.getElem?_eq_getElem (by have:=hN.out;omega)⟩
  obtain ⟨g,rfl,hpt⟩:∃ g,sa=some ⟨g,0,none⟩∧fB w g l:=by
   rcases hv.out with h | h
   ·rw [h] at hx;cases hx
   exact h
  have hpt:=ws hpt
  obtain ⟨d0,d1,d2⟩:=(hpt.out.below B) i x hx
  have hpx:=hp.out x (List.mem_of_getElem? hx)
  have he:=M.mI (a:=a) (b:=b) hx
  have hx:=ws hx
  obtain ⟨x1,x2,x3⟩:=x
  simp only [] at d0 d1 d2 hpx he
  have hb1:=M.d9 hin hpx
  have PS:=fun W=>j7 a b x1 x2 x3 W hg hb1.1 hb1.2.1 hb1.2.2.1 hb1.2.2.2.1
  clear hb1
  generalize M.eB a b x1 x3=ss at *
  have hni:=hno.out i i (by have:=hN.out;omega) (by have:=hN.out;omega)
  rw [he] at hni
  have hgs:=hG.out.size (by omega)
  have Bv:=(ww wr.heap.size wr).alloc (xA _) (.cells #[.int .i64 x1,.int .i64 x2,.int .i64 x3] 57)
  have C1:=C.alloc (.cells #[.int .i64 x1,.int .i64 x2,.int .i64 x3] 57)
  have Z1:=aH.new wr #[.int .i64 x1,.int .i64 x2,.int .i64 x3] 57
  have C_c0:=C1.box.c0
  have C_c1:=C1.box.c1
  have ⟨z0,z1,z2⟩:=Z1.aQ
  cases ss with
  | none=>
   have hfin:=ws (hni rfl)
   have hfr:=ws (hrn.out hfin.out)
   have e9:=ws (show M.slo none=0∧M.shi none=0∧(none:M.Sp).isSome=false from ⟨rfl,rfl,rfl⟩)
   rw [e9.out.1,e9.out.2.1,e9.out.2.2] at PS
   clear hni hno hrn e9 he
   replace PS:=ws PS
   go_wp2_with (go_at_call 77;(with_reducible refine (PS.out _).mono ?_);rintro e w4 ⟨rfl,hb4⟩;(replace Bv:=(Bv.trans (hb4.mono Bv.size)).alloc (Nat.le_trans Bv.size hb4.size) (.cells #[.int .i64 0,.int .i64 0] 68));(have V:=aH.new w4 #[.int .i64 0,.int .i64 0] 68);(have hz4:=hb4.size);(rw [wt] at hz4);(replace Z1:=(Z1.keep hb4).alloc (.cells #[.int .i64 0,.int .i64 0] 68));(have ⟨v0,v1,_,_,_⟩:=V.box))
   go_ret2
   exact ⟨_,by rw [hfin.out];rfl,by rw [hfr.out];exact di.nil _ _,B.trans (Bv.mono B.size)⟩
  | some q=>
  have hqe:M.fe a b l i i=q:=by unfold M.fe;rw [he];rfl
  have hqe:=ws hqe
  have hsm:=ws (show (M.ent a b l i i).isSome=true by rw [he];rfl)
  obtain ⟨q1,q2⟩:=q
  have e1:M.slo (some (q1,q2))=q1:=rfl
  have e2:M.shi (some (q1,q2))=q2:=rfl
  have e5:(some (q1,q2):M.Sp).isSome=true:=rfl
  rw [e1,e2,e5] at PS
  clear hni he e1 e2 e5
  replace PS:=ws PS
  go_upto_region 13 with (go_at_call 77;(with_reducible refine (PS.out _).mono ?_);rintro e w4 ⟨rfl,hb4⟩;(replace Bv:=(Bv.trans (hb4.mono Bv.size)).alloc (Nat.le_trans Bv.size hb4.size) (.cells #[.int .i64 q1,.int .i64 q2] 68));(have V:=aH.new w4 #[.int .i64 q1,.int .i64 q2] 68);(have hz4:=hb4.size);(rw [wt] at hz4);(replace Z1:=(Z1.keep hb4).alloc (.cells #[.int .i64 q1,.int .i64 q2] 68));(have ⟨v0,v1,_,_,_⟩:=V.box))
  have hM:=(show dR w N a b x1 x2 x3 wr.heap.size _ _ from ⟨hG.out.below Bv,C.keep Bv,⟨by omega,Z1⟩,B.trans (Bv.mono B.size)⟩)
  have hS:=(show eI w N w4.heap.size (q1,q2) _ from ⟨by omega,V⟩)
  clear Bv C1 C C_c0 C_c1 z0 z1 z2 v0 v1 d0 d1 d2 PS Z1 V B hG hz4 hb4
  have hii:((i:Nat):Int)≤4:=by omega
  generalize w4.alloc (.cells #[.int .i64 q1,.int .i64 q2] 68)=wd at *
  generalize w4.heap.size=sb at *
  generalize wr.heap.size=pb at *
  have hM:=ws hM
  have hS:=ws hS
  refine Rg.ux (fun n W=>dR w N a b x1 x2 x3 pb (M.cn N (M.done i (i+n)) (M.fe a b l)) W∧eI w N sb (q1,q2) W) [7] [.slice (some ⟨w.heap.size+1,0,none⟩) N N,.int .i64 ((i:Nat):Int),.pointer (some ⟨w.heap.size+1,i,none⟩),.slice (some ⟨w.heap.size+1+1+i,0,none⟩) N N,.int .i64 ((i:Nat):Int),.agg #[.int .i64 q1,.int .i64 q2],.pointer (some ⟨w.heap.size+1+1+i,i*2,none⟩),undef] (by kernel_rfl) (by kernel_rfl) (by kernel_rfl) (by decide) (⟨hM.out.below (ww _ wd).drew,hS.out.below (ww _ wd).drew⟩) ⟨?_,?_,?_,?_,?_,?_,?_,?_,trivial⟩ ?_
  ·unfold Rg.bj
   rw [if_neg (by decide)]
   intro ac_ w_ n_ hn_ hJ hr
   refine ⟨rfl,?_⟩
   have e6:ac_.tmps[6]?=some (.slice (some ⟨w.heap.size+1,0,none⟩) N N):=hr 6 (by decide)
   go_simp
  ·unfold Rg.bj
   rw [if_neg (by decide)]
   intro ac_ w_ n_ hn_ hJ hr
   refine ⟨rfl,?_⟩
   have e8:ac_.tmps[8]?=some (.int .i64 ((i:Nat):Int)):=hr 8 (by decide)
   go_simp
  ·unfold Rg.bj
   rw [if_neg (by decide)]
   intro ac_ w_ n_ hn_ hJ hr
   refine ⟨rfl,?_⟩
   have e45:ac_.tmps[45]?=some (.slice (some ⟨w.heap.size+1,0,none⟩) N N):=hr 45 (by decide)
   have e46:ac_.tmps[46]?=some (.int .i64 ((i:Nat):Int)):=hr 46 (by decide)
   have hlt_:((i:Nat):Int)<(N:Int):=by omega
   first | (go_simp;done) | (go_simp;omega)
  ·unfold Rg.bj
   rw [if_neg (by decide)]
   intro ac_ w_ n_ hn_ hJ hr
   refine ⟨rfl,?_⟩
   have e47:ac_.tmps[47]?=some (.pointer (some ⟨w.heap.size+1,i,none⟩)):=hr 47 (by decide)
   have hr_:=dq.row hJ.1.1 (i:=i) (by omega)
   first | (go_simp;done)
  ·unfold Rg.bj
   rw [if_neg (by decide)]
   intro ac_ w_ n_ hn_ hJ hr
   refine ⟨rfl,?_⟩
   have e8:ac_.tmps[8]?=some (.int .i64 ((i:Nat):Int)):=hr 8 (by decide)
   go_simp
  ·unfold Rg.bj
   rw [if_neg (by decide)]
   intro ac_ w_ n_ hn_ hJ hr
   refine ⟨rfl,?_⟩
   have e10:ac_.tmps[10]?=some (.pointer (some ⟨sb,0,none⟩)):=hr 10 (by decide)
   have k0:=hJ.2.2.box.c0
   have k1:=hJ.2.2.box.c1
   go_simp
  ·unfold Rg.bj
   rw [if_neg (by decide)]
   intro ac_ w_ n_ hn_ hJ hr
   refine ⟨rfl,?_⟩
   have e48:ac_.tmps[48]?=some (.slice (some ⟨w.heap.size+1+1+i,0,none⟩) N N):=hr 48 (by decide)
   have e49:ac_.tmps[49]?=some (.int .i64 ((i:Nat):Int)):=hr 49 (by decide)
   have hlt_:((i:Nat):Int)<(N:Int):=by omega
   first | (go_simp;done) | (go_simp;omega)
  ·unfold Rg.bj
   rw [if_pos (by decide)]
   intro ac_ w_ hJ hr
   have e50:ac_.tmps[50]?=some (.agg #[.int .i64 q1,.int .i64 q2]):=hr 50 (by decide)
   have e51:ac_.tmps[51]?=some (.pointer (some ⟨w.heap.size+1+1+i,i*2,none⟩)):=hr 51 (by decide)
   refine ⟨rfl,?_⟩
   obtain ⟨hM_,hS_⟩:=hJ
   have hM_:dR w N a b x1 x2 x3 pb (M.cn N (M.done i i) (M.fe a b l)) w_:=hM_
   have ⟨y0,y1,x0_,x1_,xl_⟩:=dq.cells hM_.1 (i:=i) (j:=i) (M.dO _ _ (by omega)) (M.dp _ _ (by omega))
   have hlt_:((i:Nat):Int)<(N:Int):=by omega
   have hM3_:=dR.put hM_ (i:=i) (j:=i) (q:=(q1,q2)) (rows':=M.cn N (M.done i (i+1)) (M.fe a b l)) (M.dO _ _ (by omega)) (by omega) (by rw [←hqe.out];exact M.s8 _ (by omega))
   have hS3_:=eI.put hS_ (i:=i) (j1:=i*2) (j2:=i*2+1) (u:=.int .i64 q1) (v:=.int .i64 q2) (by omega)
   clear hM_ hS_
   unfold Oper.wp
   go_simp
   all_goals first | exact hM3_ | exact ⟨hM3_,hS3_⟩
  intro vals wz hJ hv
  simp only [Rg.ak,Rg.fill,Act.put,Nat.reduceAdd]
  clear hv
  obtain ⟨hM2,-⟩:=hJ
  have hM2:dR w N a b x1 x2 x3 pb (M.cn N (M.done i (i+1)) (M.fe a b l)) wz:=hM2
  clear hM hS hqe
  go_wp2
  go_loopw [12] (fun vk wq=>∃ k:Nat,i+1≤k∧k≤N∧vk=.int .i64 k∧Hid (∀ j,i≤j→j<k→(M.ent a b l i j).isSome=true)∧Hid (dR w N a b x1 x2 x3 pb (M.cn N (M.done i k) (M.fe a b l)) wq)) (fun vk _=>N - (intOf vk).toNat)
  case atStart=>exact ⟨i+1,xA _,by omega,by go_num,ws (fun j h1 h2=>by obtain rfl:j=i:=(by omega);exact hsm.out),ws hM2⟩
  case round=>
  clear hM2
  obtain ⟨k,hk1,hk2,rfl,hall2,hM⟩:=hrel
  by_cases hlt2:k<N
  ·obtain ⟨y,hy⟩:∃ y,l[k]?=some y:=⟨_,List.getElem?_eq_getElem (by have:=hN.out;omega)⟩
   have B:=hM.out.2.2.2
   obtain ⟨d0,d1,d2⟩:=(hpt.out.below B) k y hy
   have hpy:=hp.out y (List.mem_of_getElem? hy)
   have he:=M.mH (a:=a) (b:=b) hx.out hy hk1
   clear hy
   obtain ⟨y1,y2,y3⟩:=y
   simp only [] at d0 d1 d2 hpy he
   have PP:=fun W=>qR a b x1 x2 x3 y1 y2 y3 W hg hpx hpy
   generalize M.dS a b x1 x2 x3 y1 y2 y3=ss at *
   have hni:=hno.out i k (by have:=hN.out;omega) (by have:=hN.out;omega)
   rw [he] at hni
   have C:=hM.out.2.1
   have Z:=hM.out.2.2.1.2
   have hgs:=hM.out.1.size (by omega)
   have hkk:((k:Nat):Int)<(N:Int):=by omega
   have hlt3:i<k:=hk1
   cases ss with
   | none=>
    have hfin:=ws (hni rfl)
    have hfr:=ws (hrn.out hfin.out)
    have e9:=ws (show M.slo none=0∧M.shi none=0∧(none:M.Sp).isSome=false from ⟨rfl,rfl,rfl⟩)
    rw [e9.out.1,e9.out.2.1,e9.out.2.2] at PP
    clear hni hno hrn e9 he
    replace PP:=ws PP
    go_upto_region 17 with fail
    refine Rg.uv 10 11 68 #[.int .i64 0,.int .i64 0] #[.int .i64 0,.int .i64 0] [.is (.agg #[.int .i64 a,.int .i64 b]),.is (.agg #[.int .i64 x1,.int .i64 x2,.int .i64 x3]),.is (.slice (some ⟨g,0,none⟩) N cap),.is (.int .i64 ((k:Nat):Int)),.is (.pointer (some ⟨g,k*3,none⟩)),.is (.agg #[.int .i64 y1,.int .i64 y2,.int .i64 y3]),.is (.tuple #[.agg #[.int .i64 0,.int .i64 0],.bool false]),.is (.tuple #[.agg #[.int .i64 0,.int .i64 0],.bool false]),.is (.agg #[.int .i64 0,.int .i64 0]),.is (.bool false),.is (undef),.is (undef),.is (.bool false)] (by kernel_rfl) (by kernel_rfl) (by kernel_rfl) (fun j h1 h2=>match j,h1,h2 with | 0,h1,h2=>rfl | 1,h1,h2=>rfl | 2,h1,h2=>rfl | 3,h1,h2=>rfl | 4,h1,h2=>rfl | 5,h1,h2=>rfl | 6,h1,h2=>rfl | 7,h1,h2=>rfl | 8,h1,h2=>rfl | 9,h1,h2=>rfl | 10,h1,h2=>absurd rfl h1 | 11,h1,h2=>absurd rfl h2 | 12,h1,h2=>rfl | n+13,_,_=>rfl) (by decide) ⟨?_,?_,?_,?_,?_,?_,?_,?_,?_,?_,?_,?_,?_,trivial⟩ ?_
    ·unfold Rg.bX
     rw [if_neg (by decide),if_neg (by decide)]
     intro ac_ w_ hB hr
     have e2:ac_.tmps[2]?=some (.pointer (some ⟨w.heap.size,0,none⟩)):=hr 2 (by decide)
     have k0:=aE hB C.box.c0
     have k1:=aE hB C.box.c1
     exact Rg.aG rfl (by go_simp)
    ·unfold Rg.bX
     rw [if_neg (by decide),if_neg (by decide)]
     intro ac_ w_ hB hr
     have e9:ac_.tmps[9]?=some (.pointer (some ⟨pb,0,none⟩)):=hr 9 (by decide)
     have k0:=aE hB Z.aQ.1
     have k1:=aE hB Z.aQ.2.1
     have k2:=aE hB Z.aQ.2.2
     exact Rg.aG rfl (by go_simp)
    ·unfold Rg.bX
     rw [if_neg (by decide),if_neg (by decide)]
     intro ac_ w_ hB hr
     have e1:ac_.tmps[1]?=some (.slice (some ⟨g,0,none⟩) N cap):=hr 1 (by decide)
     exact Rg.aG rfl (by go_simp)
    ·unfold Rg.bX
     rw [if_neg (by decide),if_neg (by decide)]
     intro ac_ w_ hB hr
     have e12:ac_.tmps[12]?=some (.int .i64 ((k:Nat):Int)):=hr 12 (by decide)
     exact Rg.aG rfl (by go_simp)
    ·unfold Rg.bX
     rw [if_neg (by decide),if_neg (by decide)]
     intro ac_ w_ hB hr
     have e63:=Rg.ev1 (hr 63 (by decide))
     have e64:=Rg.ev1 (hr 64 (by decide))
     exact Rg.aG rfl (by first | (go_simp;done) | (go_simp;omega))
    ·unfold Rg.bX
     rw [if_neg (by decide),if_neg (by decide)]
     intro ac_ w_ hB hr
     have e65:=Rg.ev1 (hr 65 (by decide))
     have k0:=aE hB d0
     have k1:=aE hB d1
     have k2:=aE hB d2
     exact Rg.aG rfl (by first | (go_simp;done))
    ·unfold Rg.bX
     rw [if_neg (by decide),if_neg (by decide)]
     intro ac_ w_ hB hr
     have e61:=Rg.ev1 (hr 61 (by decide))
     have e62:=Rg.ev1 (hr 62 (by decide))
     have e66:=Rg.ev1 (hr 66 (by decide))
     have ef:=Rg.ef ac_
     exact Rg.bR rfl (by go_simp) (PP.out _)
    ·unfold Rg.bX
     rw [if_neg (by decide),if_neg (by decide)]
     intro ac_ w_ hB hr
     have e67:=Rg.ev1 (hr 67 (by decide))
     exact Rg.aG rfl (by go_simp)
    ·unfold Rg.bX
     rw [if_neg (by decide),if_neg (by decide)]
     intro ac_ w_ hB hr
     have e60:=Rg.ev1 (hr 60 (by decide))
     exact Rg.aG rfl (by go_simp)
    ·unfold Rg.bX
     rw [if_neg (by decide),if_neg (by decide)]
     intro ac_ w_ hB hr
     have e60:=Rg.ev1 (hr 60 (by decide))
     exact Rg.aG rfl (by go_simp)
    ·unfold Rg.bX
     rw [if_pos rfl]
     intro ac_ w_
     exact Rg.ke rfl (by first | (go_simp;done) | (go_simp;rfl))
    ·unfold Rg.bX
     rw [if_neg (by decide),if_pos rfl]
     intro ac_ w_ h_ hh hn hr
     have e13:ac_.tmps[13]?=some (.pointer (some ⟨h_,0,none⟩)):=hr 13 (by decide)
     have e68:=Rg.ev1 (hr 68 (by decide))
     have ⟨y0,y1,x0,x1,_⟩:=hn.box
     refine ⟨rfl,?_⟩
     unfold Oper.wp
     go_simp
     exact ⟨aH.set2 hn _ _,wu (wu (ww _ _) hh _) hh _⟩
    ·unfold Rg.bX
     rw [if_neg (by decide),if_neg (by decide)]
     intro ac_ w_ hB hr
     have e69:=Rg.ev1 (hr 69 (by decide))
     exact Rg.aG rfl (by go_simp)
    intro vals wz h_ hh hn v_10 hB hv
    have v_12:vals 12=.bool false:=hv 12 (by decide) (by decide) (by decide)
    simp only [Rg.ak,Rg.fill,Act.put,Nat.reduceAdd]
    clear hv
    simp only [v_10,v_12]
    clear v_10 v_12
    go_wp2
    go_ret2
    exact ⟨_,by rw [hfin.out];rfl,by rw [hfr.out];exact di.nil _ _,B.trans (hB.mono B.size)⟩
   | some q=>
   have hqe:M.fe a b l i k=q:=by unfold M.fe;rw [he];rfl
   have hqe:=ws hqe
   have hsm2:=ws (show (M.ent a b l i k).isSome=true by rw [he];rfl)
   obtain ⟨q1,q2⟩:=q
   have e1:M.slo (some (q1,q2))=q1:=rfl
   have e2:M.shi (some (q1,q2))=q2:=rfl
   have e5:(some (q1,q2):M.Sp).isSome=true:=rfl
   rw [e1,e2,e5] at PP
   clear hni he e1 e2 e5
   replace PP:=ws PP
   go_upto_region 17 with fail
   refine Rg.uv 10 11 68 #[.int .i64 0,.int .i64 0] #[.int .i64 q1,.int .i64 q2] [.is (.agg #[.int .i64 a,.int .i64 b]),.is (.agg #[.int .i64 x1,.int .i64 x2,.int .i64 x3]),.is (.slice (some ⟨g,0,none⟩) N cap),.is (.int .i64 ((k:Nat):Int)),.is (.pointer (some ⟨g,k*3,none⟩)),.is (.agg #[.int .i64 y1,.int .i64 y2,.int .i64 y3]),.is (.tuple #[.agg #[.int .i64 q1,.int .i64 q2],.bool true]),.is (.tuple #[.agg #[.int .i64 q1,.int .i64 q2],.bool true]),.is (.agg #[.int .i64 q1,.int .i64 q2]),.is (.bool true),.is (undef),.is (undef),.is (.bool true)] (by kernel_rfl) (by kernel_rfl) (by kernel_rfl) (fun j h1 h2=>match j,h1,h2 with | 0,h1,h2=>rfl | 1,h1,h2=>rfl | 2,h1,h2=>rfl | 3,h1,h2=>rfl | 4,h1,h2=>rfl | 5,h1,h2=>rfl | 6,h1,h2=>rfl | 7,h1,h2=>rfl | 8,h1,h2=>rfl | 9,h1,h2=>rfl | 10,h1,h2=>absurd rfl h1 | 11,h1,h2=>absurd rfl h2 | 12,h1,h2=>rfl | n+13,_,_=>rfl) (by decide) ⟨?_,?_,?_,?_,?_,?_,?_,?_,?_,?_,?_,?_,?_,trivial⟩ ?_
   ·unfold Rg.bX
    rw [if_neg (by decide),if_neg (by decide)]
    intro ac_ w_ hB hr
    have e2:ac_.tmps[2]?=some (.pointer (some ⟨w.heap.size,0,none⟩)):=hr 2 (by decide)
    have k0:=aE hB C.box.c0
    have k1:=aE hB C.box.c1
    exact Rg.aG rfl (by go_simp)
   ·unfold Rg.bX
    rw [if_neg (by decide),if_neg (by decide)]
    intro ac_ w_ hB hr
    have e9:ac_.tmps[9]?=some (.pointer (some ⟨pb,0,none⟩)):=hr 9 (by decide)
    have k0:=aE hB Z.aQ.1
    have k1:=aE hB Z.aQ.2.1
    have k2:=aE hB Z.aQ.2.2
    exact Rg.aG rfl (by go_simp)
   ·unfold Rg.bX
    rw [if_neg (by decide),if_neg (by decide)]
    intro ac_ w_ hB hr
    have e1:ac_.tmps[1]?=some (.slice (some ⟨g,0,none⟩) N cap):=hr 1 (by decide)
    exact Rg.aG rfl (by go_simp)
   ·unfold Rg.bX
    rw [if_neg (by decide),if_neg (by decide)]
    intro ac_ w_ hB hr
    have e12:ac_.tmps[12]?=some (.int .i64 ((k:Nat):Int)):=hr 12 (by decide)
    exact Rg.aG rfl (by go_simp)
   ·unfold Rg.bX
    rw [if_neg (by decide),if_neg (by decide)]
    intro ac_ w_ hB hr
    have e63:=Rg.ev1 (hr 63 (by decide))
    have e64:=Rg.ev1 (hr 64 (by decide))
    exact Rg.aG rfl (by first | (go_simp;done) | (go_simp;omega))
   ·unfold Rg.bX
    rw [if_neg (by decide),if_neg (by decide)]
    intro ac_ w_ hB hr
    have e65:=Rg.ev1 (hr 65 (by decide))
    have k0:=aE hB d0
    have k1:=aE hB d1
    have k2:=aE hB d2
    exact Rg.aG rfl (by first | (go_simp;done))
   ·unfold Rg.bX
    rw [if_neg (by decide),if_neg (by decide)]
    intro ac_ w_ hB hr
    have e61:=Rg.ev1 (hr 61 (by decide))
    have e62:=Rg.ev1 (hr 62 (by decide))
    have e66:=Rg.ev1 (hr 66 (by decide))
    have ef:=Rg.ef ac_
    exact Rg.bR rfl (by go_simp) (PP.out _)
   ·unfold Rg.bX
    rw [if_neg (by decide),if_neg (by decide)]
    intro ac_ w_ hB hr
    have e67:=Rg.ev1 (hr 67 (by decide))
    exact Rg.aG rfl (by go_simp)
   ·unfold Rg.bX
    rw [if_neg (by decide),if_neg (by decide)]
    intro ac_ w_ hB hr
    have e60:=Rg.ev1 (hr 60 (by decide))
    exact Rg.aG rfl (by go_simp)
   ·unfold Rg.bX
    rw [if_neg (by decide),if_neg (by decide)]
    intro ac_ w_ hB hr
    have e60:=Rg.ev1 (hr 60 (by decide))
    exact Rg.aG rfl (by go_simp)
   ·unfold Rg.bX
    rw [if_pos rfl]
    intro ac_ w_
    exact Rg.ke rfl (by first | (go_simp;done) | (go_simp;rfl))
   ·unfold Rg.bX
    rw [if_neg (by decide),if_pos rfl]
    intro ac_ w_ h_ hh hn hr
    have e13:ac_.tmps[13]?=some (.pointer (some ⟨h_,0,none⟩)):=hr 13 (by decide)
    have e68:=Rg.ev1 (hr 68 (by decide))
    have ⟨y0,y1,x0,x1,_⟩:=hn.box
    refine ⟨rfl,?_⟩
    unfold Oper.wp
    go_simp
    exact ⟨aH.set2 hn _ _,wu (wu (ww _ _) hh _) hh _⟩
   ·unfold Rg.bX
    rw [if_neg (by decide),if_neg (by decide)]
    intro ac_ w_ hB hr
    have e69:=Rg.ev1 (hr 69 (by decide))
    exact Rg.aG rfl (by go_simp)
   intro vals wz h_ hh hn v_10 hB hv
   have v_12:vals 12=.bool true:=hv 12 (by decide) (by decide) (by decide)
   simp only [Rg.ak,Rg.fill,Act.put,Nat.reduceAdd]
   clear hv
   simp only [v_10,v_12]
   clear v_10 v_12
   have hM2:=ws (hM.out.below hB)
   have hS:=ws (show eI w N h_ (q1,q2) wz from ⟨by omega,hn⟩)
   clear hn hB hM d0 d1 d2 PP C Z B
   go_upto_region 20 with fail
   have hkk4:((k:Nat):Int)≤4:=by omega
   refine Rg.ux (fun n W=>dR w N a b x1 x2 x3 pb (M.cn N (M.wk i k n) (M.fe a b l)) W∧eI w N h_ (q1,q2) W) [13,15] [.slice (some ⟨w.heap.size+1,0,none⟩) N N,.int .i64 ((i:Nat):Int),.pointer (some ⟨w.heap.size+1,i,none⟩),.slice (some ⟨w.heap.size+1+1+i,0,none⟩) N N,.int .i64 ((k:Nat):Int),.slice (some ⟨w.heap.size+1,0,none⟩) N N,.int .i64 ((k:Nat):Int),.pointer (some ⟨w.heap.size+1,k,none⟩),.slice (some ⟨w.heap.size+1+1+k,0,none⟩) N N,.int .i64 ((i:Nat):Int),.agg #[.int .i64 q1,.int .i64 q2],.agg #[.int .i64 q1,.int .i64 q2],.pointer (some ⟨w.heap.size+1+1+i,k*2,none⟩),undef,.pointer (some ⟨w.heap.size+1+1+k,i*2,none⟩),undef] (by kernel_rfl) (by kernel_rfl) (by kernel_rfl) (by decide) (⟨hM2.out.below (ww _ wz).drew,hS.out.below (ww _ wz).drew⟩) ⟨?_,?_,?_,?_,?_,?_,?_,?_,?_,?_,?_,?_,?_,?_,?_,?_,trivial⟩ ?_
   ·unfold Rg.bj
    rw [if_neg (by decide)]
    intro ac_ w_ n_ hn_ hJ hr
    refine ⟨rfl,?_⟩
    have e6:ac_.tmps[6]?=some (.slice (some ⟨w.heap.size+1,0,none⟩) N N):=hr 6 (by decide)
    go_simp
   ·unfold Rg.bj
    rw [if_neg (by decide)]
    intro ac_ w_ n_ hn_ hJ hr
    refine ⟨rfl,?_⟩
    have e8:ac_.tmps[8]?=some (.int .i64 ((i:Nat):Int)):=hr 8 (by decide)
    go_simp
   ·unfold Rg.bj
    rw [if_neg (by decide)]
    intro ac_ w_ n_ hn_ hJ hr
    refine ⟨rfl,?_⟩
    have e72:ac_.tmps[72]?=some (.slice (some ⟨w.heap.size+1,0,none⟩) N N):=hr 72 (by decide)
    have e73:ac_.tmps[73]?=some (.int .i64 ((i:Nat):Int)):=hr 73 (by decide)
    have hlt_:((i:Nat):Int)<(N:Int):=by omega
    first | (go_simp;done) | (go_simp;omega)
   ·unfold Rg.bj
    rw [if_neg (by decide)]
    intro ac_ w_ n_ hn_ hJ hr
    refine ⟨rfl,?_⟩
    have e74:ac_.tmps[74]?=some (.pointer (some ⟨w.heap.size+1,i,none⟩)):=hr 74 (by decide)
    have hr_:=dq.row hJ.1.1 (i:=i) (by omega)
    first | (go_simp;done)
   ·unfold Rg.bj
    rw [if_neg (by decide)]
    intro ac_ w_ n_ hn_ hJ hr
    refine ⟨rfl,?_⟩
    have e12:ac_.tmps[12]?=some (.int .i64 ((k:Nat):Int)):=hr 12 (by decide)
    go_simp
   ·unfold Rg.bj
    rw [if_neg (by decide)]
    intro ac_ w_ n_ hn_ hJ hr
    refine ⟨rfl,?_⟩
    have e6:ac_.tmps[6]?=some (.slice (some ⟨w.heap.size+1,0,none⟩) N N):=hr 6 (by decide)
    go_simp
   ·unfold Rg.bj
    rw [if_neg (by decide)]
    intro ac_ w_ n_ hn_ hJ hr
    refine ⟨rfl,?_⟩
    have e12:ac_.tmps[12]?=some (.int .i64 ((k:Nat):Int)):=hr 12 (by decide)
    go_simp
   ·unfold Rg.bj
    rw [if_neg (by decide)]
    intro ac_ w_ n_ hn_ hJ hr
    refine ⟨rfl,?_⟩
    have e77:ac_.tmps[77]?=some (.slice (some ⟨w.heap.size+1,0,none⟩) N N):=hr 77 (by decide)
    have e78:ac_.tmps[78]?=some (.int .i64 ((k:Nat):Int)):=hr 78 (by decide)
    have hlt_:((k:Nat):Int)<(N:Int):=by omega
    first | (go_simp;done) | (go_simp;omega)
   ·unfold Rg.bj
    rw [if_neg (by decide)]
    intro ac_ w_ n_ hn_ hJ hr
    refine ⟨rfl,?_⟩
    have e79:ac_.tmps[79]?=some (.pointer (some ⟨w.heap.size+1,k,none⟩)):=hr 79 (by decide)
    have hr_:=dq.row hJ.1.1 (i:=k) (by omega)
    first | (go_simp;done)
   ·unfold Rg.bj
    rw [if_neg (by decide)]
    intro ac_ w_ n_ hn_ hJ hr
    refine ⟨rfl,?_⟩
    have e8:ac_.tmps[8]?=some (.int .i64 ((i:Nat):Int)):=hr 8 (by decide)
    go_simp
   ·unfold Rg.bj
    rw [if_neg (by decide)]
    intro ac_ w_ n_ hn_ hJ hr
    refine ⟨rfl,?_⟩
    have e13:ac_.tmps[13]?=some (.pointer (some ⟨h_,0,none⟩)):=hr 13 (by decide)
    have k0:=hJ.2.2.box.c0
    have k1:=hJ.2.2.box.c1
    go_simp
   ·unfold Rg.bj
    rw [if_neg (by decide)]
    intro ac_ w_ n_ hn_ hJ hr
    refine ⟨rfl,?_⟩
    have e13:ac_.tmps[13]?=some (.pointer (some ⟨h_,0,none⟩)):=hr 13 (by decide)
    have k0:=hJ.2.2.box.c0
    have k1:=hJ.2.2.box.c1
    go_simp
   ·unfold Rg.bj
    rw [if_neg (by decide)]
    intro ac_ w_ n_ hn_ hJ hr
    refine ⟨rfl,?_⟩
    have e75:ac_.tmps[75]?=some (.slice (some ⟨w.heap.size+1+1+i,0,none⟩) N N):=hr 75 (by decide)
    have e76:ac_.tmps[76]?=some (.int .i64 ((k:Nat):Int)):=hr 76 (by decide)
    have hlt_:((k:Nat):Int)<(N:Int):=by omega
    first | (go_simp;done) | (go_simp;omega)
   ·unfold Rg.bj
    rw [if_pos (by decide)]
    intro ac_ w_ hJ hr
    have e82:ac_.tmps[82]?=some (.agg #[.int .i64 q1,.int .i64 q2]):=hr 82 (by decide)
    have e84:ac_.tmps[84]?=some (.pointer (some ⟨w.heap.size+1+1+i,k*2,none⟩)):=hr 84 (by decide)
    refine ⟨rfl,?_⟩
    obtain ⟨hM_,hS_⟩:=hJ
    have hM_:dR w N a b x1 x2 x3 pb (M.cn N (M.done i k) (M.fe a b l)) w_:=hM_
    have ⟨y0,y1,x0_,x1_,xl_⟩:=dq.cells hM_.1 (i:=i) (j:=k) (M.dO _ _ (by omega)) (M.dp _ _ (by omega))
    have hlt_:((k:Nat):Int)<(N:Int):=by omega
    have hM3_:=dR.put hM_ (i:=i) (j:=k) (q:=(q1,q2)) (rows':=M.cn N (M.half i k) (M.fe a b l)) (M.dO _ _ (by omega)) (by omega) (by rw [←hqe.out];exact M.uR _ (by omega) (by omega))
    have hS3_:=eI.put hS_ (i:=i) (j1:=k*2) (j2:=k*2+1) (u:=.int .i64 q1) (v:=.int .i64 q2) (by omega)
    clear hM_ hS_
    unfold Oper.wp
    go_simp
    all_goals first | exact hM3_ | exact ⟨hM3_,hS3_⟩
   ·unfold Rg.bj
    rw [if_neg (by decide)]
    intro ac_ w_ n_ hn_ hJ hr
    refine ⟨rfl,?_⟩
    have e80:ac_.tmps[80]?=some (.slice (some ⟨w.heap.size+1+1+k,0,none⟩) N N):=hr 80 (by decide)
    have e81:ac_.tmps[81]?=some (.int .i64 ((i:Nat):Int)):=hr 81 (by decide)
    have hlt_:((i:Nat):Int)<(N:Int):=by omega
    first | (go_simp;done) | (go_simp;omega)
   ·unfold Rg.bj
    rw [if_pos (by decide)]
    intro ac_ w_ hJ hr
    have e83:ac_.tmps[83]?=some (.agg #[.int .i64 q1,.int .i64 q2]):=hr 83 (by decide)
    have e85:ac_.tmps[85]?=some (.pointer (some ⟨w.heap.size+1+1+k,i*2,none⟩)):=hr 85 (by decide)
    refine ⟨rfl,?_⟩
    obtain ⟨hM_,hS_⟩:=hJ
    have hM_:dR w N a b x1 x2 x3 pb (M.cn N (M.half i k) (M.fe a b l)) w_:=hM_
    have ⟨y0,y1,x0_,x1_,xl_⟩:=dq.cells hM_.1 (i:=k) (j:=i) (M.dO _ _ (by omega)) (M.dp _ _ (by omega))
    have hlt_:((i:Nat):Int)<(N:Int):=by omega
    have hM3_:=dR.put hM_ (i:=k) (j:=i) (q:=(q1,q2)) (rows':=M.cn N (M.done i (k+1)) (M.fe a b l)) (M.dO _ _ (by omega)) (by omega) (by rw [←hqe.out];exact M.uS _ (M.vN _ _ _ _ _) (by omega) (by omega))
    have hS3_:=eI.put hS_ (i:=k) (j1:=i*2) (j2:=i*2+1) (u:=.int .i64 q1) (v:=.int .i64 q2) (by omega)
    clear hM_ hS_
    unfold Oper.wp
    go_simp
    all_goals first | exact hM3_ | exact ⟨hM3_,hS3_⟩
   intro vals wy hJ hv
   simp only [Rg.ak,Rg.fill,Act.put,Nat.reduceAdd]
   clear hv
   obtain ⟨hM3,-⟩:=hJ
   have hM3:dR w N a b x1 x2 x3 pb (M.cn N (M.done i (k+1)) (M.fe a b l)) wy:=hM3
   clear hM2 hS hqe
   go_wp2
   go_roundw
   case rel=>exact ⟨k+1,by omega,by omega,by go_num,ws (fun j h1 h2=>by
    rcases Nat.lt_or_ge j k with h3 | h3
    ·exact hall2.out j h1 h3
    obtain rfl:j=k:=by omega
    exact hsm2.out),ws hM3⟩
   case measure=>simp [intOf] <;> omega
  obtain rfl:N=k:=by omega
  have hM3:=hM.out
  have hd:=M.px (n:=N) (i:=i) (M.fe a b l)
  have hG3:=hM3.1
  rw [hd] at hG3
  have hG3:=ws hG3
  clear hd
  have hal:∀ i',i'<i+1→∀ j,j<l.length→(M.ent a b l i' j).isSome=true:=fun i' h j hj=>by
   rcases Nat.lt_or_ge i' i with q | q
   ·exact hall.out i' q j hj
   obtain rfl:i'=i:=by omega
   rcases Nat.lt_or_ge j i' with q2 | q2
   ·rw [M.iY];exact hall.out j q2 i' (by have:=hN.out;omega)
   exact hall2.out j q2 (by have:=hN.out;omega)
  have hal:=ws hal
  have C3:=hM3.2.1
  have B3:=hM3.2.2.2
  clear hM3 hM
  go_wp2
  go_roundw
  case rel=>exact ⟨i+1,by omega,by go_num,hal,hG3,C3,B3⟩
  case measure=>simp [intOf] <;> omega
 obtain rfl:N=i:=by omega
 have hyes:=ws (M.pP (a:=a) (b:=b) (l:=l) (fun i' h=>hall.out i' (by have:=hN.out;omega)))
 have hrows:=ws (M.qQ hyes.out)
 have hG4:=hG.out.mat (base:=w.heap.size) (by omega) (by omega)
 have hG4:=ws hG4
 clear hG
 go_wp2
 go_ret2
 exact ⟨_,by rw [hyes.out];rfl,by rw [hrows.out,hN.out];exact hG4.out,B⟩
theorem Rw.From.below {α:Type} {E:Rw.Enc α} {w w':World} {A:Option Addr} {ys:List α} (h:Rw.From E w A ys) (hb:Below w.heap.size w w'):Rw.From E w' A ys:=fun j u hu=>by
 obtain ⟨ad,e,hc⟩:=h j u hu
 exact ⟨ad,e,aE hb hc⟩
theorem tu (n:Nat) (h1:1≤n) (h2:n≤4) (w:World) :
  Calls Tryz.prog 97 #[.slice none 0 0,.int .i64 (n:Int)] w fun e w'=>∃ v,e=.returned v∧Rw.Own EP w' w.heap.size v []∧Below w.heap.size w w':=by
 obtain ⟨i0,hi,hz0,hz1,hz2⟩:=info_parts sR
 have hc:=Any8.slices_Grow_grow Tryz.growP i0 _ hi hz0 (by omega) none 0 0 n [] w (xA _) (by omega) (by rw [hz2];omega) (by omega) (by simp) (fun _=>rfl) (fun a h=>by cases h)
 refine Calls.mono hc ?_
 rintro e w' ⟨rfl,rfl⟩
 refine ⟨_,rfl,⟨rfl,Or.inr ⟨w.heap.size,_,_,rfl,xA _,heap_alloc_new w.drew _,Nat.zero_le _,grownCap_le_maxLen w _ 0 _ (by unfold maxLen;omega),?_,rfl⟩⟩,((ww _ w).drew).alloc (xA _) _⟩
 have hG:=grownCap_ge w (0+n) 0 (Tryz.growP_ren.t 25)
 have hk:EP.k=2:=rfl
 simp only [Array.size_append,size_zeroCells,hk]
 simp only [List.size_toArray,List.length_nil,Value.cells]
 show 0+(0+n - 0)*2+(_ - (0+n))*2=_*2
 omega
theorem rY (h n1 c1 n2 c2:Nat) (a1 a2:Option Addr) (r1 r2:List (Int × Int)) (w:World) (k0:w.cell? ⟨h,0,none⟩=some (.slice a1 n1 c1)) (k1:w.cell? ⟨h,1,none⟩=some (.slice a2 n2 c2))
  (hn1:r1.length=n1) (hn2:r2.length=n2) (F1:Rw.From EP w a1 r1) (F2:Rw.From EP w a2 r2) (h1:1≤n1+n2) (h2:n1+n2≤4) :
  Calls Tryz.prog 79 #[.slice (some ⟨h,0,none⟩) 2 2] w fun e w'=>∃ v,e=.returned v∧Rw.Own EP w' w.heap.size v (r1 ++ r2)∧Below w.heap.size w w':=by
 have PG:=ws fun W=>tu (n1+n2) h1 h2 W
 have F1:=ws F1
 have F2:=ws F2
 have hn1:=ws hn1
 have hn2:=ws hn2
 have i1:(n1:Int)≤4:=by omega
 have i2:(n2:Int)≤4:=by omega
 go_enter Tryz.func79,Tryz.ntmps79
 go_wp2
 go_loopw [3,11] (fun vs vk wr=>w=wr∧((vk=.int .i64 0∧vs=.int .i64 0)∨(vk=.int .i64 1∧vs=.int .i64 (n1:Int))∨(vk=.int .i64 2∧vs=.int .i64 ((n1:Int)+n2)))) (fun _ vk _=>2 - (intOf vk).toNat)
 case atStart=>exact ⟨rfl,Or.inl ⟨rfl,rfl⟩⟩
 case round=>
 obtain ⟨rfl,hrel⟩:=hrel
 rcases hrel with ⟨rfl,rfl⟩ | ⟨rfl,rfl⟩ | ⟨rfl,rfl⟩
 ·go_wp2
  go_roundw
  case rel=>exact ⟨trivial,Or.inr (Or.inl ⟨rfl,by go_num⟩)⟩
  case measure=>simp [intOf]
 ·go_wp2
  go_roundw
  case rel=>exact ⟨trivial,Or.inr (Or.inr ⟨rfl,by go_num⟩)⟩
  case measure=>simp [intOf]
 replace PG:=ws (fun W x (hx:x=((n1:Int)+n2))=>(by subst hx;exact PG.out W:Calls Tryz.prog 97 #[.slice none 0 0,.int .i64 x] W fun e w'=>∃ v,e=.returned v∧Rw.Own EP w' W.heap.size v []∧Below W.heap.size W w'))
 go_wp2_with (go_at_call 97;refine (PG.out _ _ (by omega)).mono ?_;rintro e w4 ⟨v4,rfl,ho4,hb4⟩)
 go_loopw [6,27] (fun vo vk wq=>Below w.heap.size w wq∧((vk=.int .i64 0∧Hid (Rw.Own EP wq w.heap.size vo []))∨(vk=.int .i64 1∧Hid (Rw.Own EP wq w.heap.size vo r1))∨(vk=.int .i64 2∧Hid (Rw.Own EP wq w.heap.size vo (r1 ++ r2))))) (fun _ vk _=>2 - (intOf vk).toNat)
 case atStart=>exact ⟨hb4,Or.inl ⟨rfl,ws ho4⟩⟩
 case round=>
 clear hb4 ho4
 obtain ⟨B,hrel⟩:=hrel
 have y0:=aE B k0
 have y1:=aE B k1
 rcases hrel with ⟨rfl,ho⟩ | ⟨rfl,ho⟩ | ⟨rfl,ho⟩
 ·go_wp2_with (at_builtin;refine Rw.push uk (W:=w) w.heap.size r1 [] _ a1 n1 c1 hn1.out rfl (.tmp 31) (.tmp 32) rfl rfl rfl (F1.out.below B) ho.out B B.size (by have:=hn1.out;simp only [List.length_nil];omega) ?_;intro v6 w6 hown6 hb6)
  go_roundw
  case rel=>exact ⟨hb6,Or.inr (Or.inl ⟨rfl,ws hown6⟩)⟩
  case measure=>simp [intOf]
 ·go_wp2_with (at_builtin;refine Rw.push uk (W:=w) w.heap.size r2 r1 _ a2 n2 c2 hn2.out rfl (.tmp 31) (.tmp 32) rfl rfl rfl (F2.out.below B) ho.out B B.size (by have:=hn1.out;have:=hn2.out;omega) ?_;intro v6 w6 hown6 hb6)
  go_roundw
  case rel=>exact ⟨hb6,Or.inr (Or.inr ⟨rfl,ws hown6⟩)⟩
  case measure=>simp [intOf]
 go_wp2
 go_ret
 exact ⟨_,rfl,ho.out,B⟩
theorem dM {W:World} {base g i k n:Nat} {t T:TypeId} {v:Value} {vs:List Value} {ys:Array Value} (h:W.ownsRow base t k v n vs) (hv:aH W g T ys) (hT:T≠t) (x:Value):(W.setCell ⟨g,i,none⟩ x).ownsRow base t k v n vs:=by
 have hap:v.ownBlock≠some g:=by
  intro e
  rcases h.2 with ⟨rfl,-⟩ | ⟨g1,c1,cur1,rfl,-,hh1,-⟩
  ·cases e
  simp only [Value.ownBlock,Option.some.injEq] at e
  subst e
  unfold aH at hv
  rw [hh1] at hv
  injection hv with hv
  injection hv with _ h2
  exact hT h2.symm
 refine World.ownsRow.kept (row:=some g) h ⟨rfl,rfl,rfl,by simp [go_sem],fun k hk hne=>?_⟩ (Or.inr hap)
 rw [World.setCell]
 show (W.heap.modify g _)[k]?=_
 rw [Array.getElem?_modify,if_neg (fun e=>hne (by rw [e]))]
theorem j6 {w W:World} (ty:TypeId) (base:Nat) (u:Value) (r:List (Int × Int)) (vs:List Value) (rows:List (List (Int × Int))) (v:Value)
  (hown:bV w base v vs rows) (hu:Rw.Own EP w base u r) (hnew:∀ g,u.ownBlock=some g→∀ z ∈ vs,z.ownBlock≠some g)
  (hW:Below base W w) (hB:base≤w.heap.size) (hl:rows.length≤1000000000) :
  ∃ v' w',(Builtin.append_ #[89,89] ty #[v,.slice (some ⟨w.heap.size,0,none⟩) 1 1]).run Tryz.prog (w.alloc (.cells #[u] 110))=.ok v' w'∧bV w' base v' (vs ++ [u]) (rows ++ [r])∧Below base W w':=by
 obtain ⟨i0,hi,hz0,hz1,hz2⟩:=info_parts sS
 obtain ⟨h1,h2,h3,h4⟩:=hown
 obtain ⟨v',w',q1,k1,k2,-,-⟩:=run_append_own_at (P:=Tryz.prog) (w.alloc (.cells #[u] 110)) base 89 ty 110 i0 (.slice none 0 0) 1 24 Tryz.underlying89 hi hz0 hz1 hz2 rfl (by decide) v rows.length vs (h1.alloc _) ⟨w.heap.size,0,none⟩ 1 1 [u] rfl (fun j z hz=>by
  have hadd:(⟨w.heap.size,0,none⟩:Addr).add j=⟨w.heap.size,j,none⟩:=by unfold Addr.add;split <;> simp_all
  rw [hadd,World.cell?_alloc_at _ _ _ _ rfl]
  simpa using hz) (fun z hz=>by simp only [List.mem_singleton] at hz;subst hz;exact Rw.lJ hu) (by unfold maxLen;omega) (by omega) (by rw [wt];omega)
 refine ⟨v',w',q1,⟨by rw [List.length_append];exact k1,by rw [List.length_append,List.length_append,h2];rfl,?_,?_⟩,((hW.alloc hB _).grown k2 (by rw [wt];omega) fun k hk=>(h1.lt k hk).1)⟩
 ·have hal:∀ {z:Value} {q:List (Int × Int)},Rw.Own EP w base z q→Rw.Own EP w' base z q:=by
   intro z q hz
   have hz':Rw.Own EP (w.alloc (.cells #[u] 110)) base z q:=World.ownsRow.alloc hz _
   refine hz'.kept k2 fun g hg=>?_
   exact fi (t1:=68) (t2:=110) hz' (World.ownsRow.alloc h1 _) (Ne.symm neP) g hg
  intro i z q hz hq
  by_cases hlt:i<vs.length
  ·rw [List.getElem?_append_left hlt] at hz
   rw [List.getElem?_append_left (by omega)] at hq
   exact hal (h3 i z q hz hq)
  rw [List.getElem?_append_right (by omega)] at hz
  rw [List.getElem?_append_right (by omega),←h2] at hq
  have hi0:i - vs.length=0:=by
   rcases Nat.eq_zero_or_pos (i - vs.length) with e | e
   ·exact e
   rw [List.getElem?_eq_none (by simp;omega)] at hz;cases hz
  rw [hi0] at hz hq
  simp only [List.getElem?_cons_zero,Option.some.injEq] at hz hq
  subst hz hq
  exact hal hu
 rw [List.pairwise_append]
 refine ⟨h4,by simp,fun z hz z' hz' g hg hg'=>?_⟩
 simp only [List.mem_singleton] at hz'
 subst hz'
 exact hnew g hg' z hz hg
theorem bV.dW {W:World} {base g i:Nat} {T:TypeId} {v:Value} {vs:List Value} {rows:List (List (Int × Int))} {ys:Array Value} (h:bV W base v vs rows) (hv:aH W g T ys) (hT:T≠68) (hT2:T≠110) (x:Value):bV (W.setCell ⟨g,i,none⟩ x) base v vs rows:=by
 obtain ⟨h1,h2,h3,h4⟩:=h
 exact ⟨dM h1 hv hT2 x,h2,fun i u r hu hr=>dM (h3 i u r hu hr) hv hT x,h4⟩
theorem di.dW {W:World} {base g i:Nat} {T:TypeId} {v:Value} {rows:List (List (Int × Int))} {ys:Array Value} (h:di W base v rows) (hv:aH W g T ys) (hT:T≠68) (hT2:T≠110) (x:Value):di (W.setCell ⟨g,i,none⟩ x) base v rows:=h.elim fun vs k=>⟨vs,k.dW hv hT hT2 x⟩
theorem bV.fresh {w w':World} {base b2:Nat} {v u:Value} {vs:List Value} {rows:List (List (Int × Int))} {r:List (Int × Int)} (h:bV w base v vs rows) (hu:Rw.Own EP w' b2 u r) (hb:w.heap.size≤b2):∀ g,u.ownBlock=some g→∀ z ∈ vs,z.ownBlock≠some g:=fun g hg z hz e=>by
 have h1:=(h.lt z hz g e).2
 have h2:=(hu.lt g hg).1
 omega
theorem Rw.From.cut {α:Type} {E:Rw.Enc α} {w:World} {g:Nat} {r:List α} (h:Rw.From E w (some ⟨g,0,none⟩) r) (c:Nat):Rw.From E w (some ⟨g,0,none⟩) (r.take c):=fun j u hu=>by
 rw [Rw.gl,List.getElem?_take] at hu
 split at hu
 ·exact h j u hu
 cases hu
theorem Rw.From.rest {α:Type} {E:Rw.Enc α} {w:World} {g:Nat} {r:List α} (h:Rw.From E w (some ⟨g,0,none⟩) r) (c:Nat):Rw.From E w (some ⟨g,c*E.k,none⟩) (r.drop c):=fun j u hu=>by
 rw [Rw.qD,List.getElem?_drop] at hu
 obtain ⟨ad,e,hc⟩:=h _ u hu
 refine ⟨_,rfl,?_⟩
 have:=Option.some.inj e
 subst this
 have hadd2:∀ b i j:Nat,(⟨b,i,none⟩:Addr).add j=⟨b,i+j,none⟩:=fun b i j=>by unfold Addr.add;split <;> simp_all
 rw [hadd2] at hc ⊢
 rw [Nat.zero_add] at hc
 exact hc
theorem Rw.From.pW {α:Type} {E:Rw.Enc α} {w:World} {g:Nat} {r:List α} (h:Rw.From E w (some ⟨g,0,none⟩) r) (c cap:Nat) (hl:r.length≤cap):Rw.From E w (if cap=c then some ⟨g,0,none⟩ else some ⟨g,c*E.k,none⟩) (r.drop c):=by
 by_cases hc:cap=c
 ·rw [if_pos hc,List.drop_eq_nil_of_le (by omega)]
  exact Rw.From.nil E w _
 rw [if_neg hc]
 exact h.rest c
theorem jz {w W:World} (ty:TypeId) (base:Nat) (u:Value) (r:List (Int × Int × Int × Int)) (vs:List Value) (rows:List (List (Int × Int × Int × Int))) (v:Value)
  (hown:bp w base v vs rows) (hu:Rw.Own EN w base u r) (hnew:∀ g,u.ownBlock=some g→∀ z ∈ vs,z.ownBlock≠some g)
  (hW:Below base W w) (hB:base≤w.heap.size) (hl:rows.length≤1000000000) :
  ∃ v' w',(Builtin.append_ #[83,83] ty #[v,.slice (some ⟨w.heap.size,0,none⟩) 1 1]).run Tryz.prog (w.alloc (.cells #[u] 100))=.ok v' w'∧bp w' base v' (vs ++ [u]) (rows ++ [r])∧Below base W w':=by
 obtain ⟨i0,hi,hz0,hz1,hz2⟩:=info_parts sQ
 obtain ⟨h1,h2,h3,h4⟩:=hown
 obtain ⟨v',w',q1,k1,k2,-,-⟩:=run_append_own_at (P:=Tryz.prog) (w.alloc (.cells #[u] 100)) base 83 ty 100 i0 (.slice none 0 0) 1 24 Tryz.underlying83 hi hz0 hz1 hz2 rfl (by decide) v rows.length vs (h1.alloc _) ⟨w.heap.size,0,none⟩ 1 1 [u] rfl (fun j z hz=>by
  have hadd:(⟨w.heap.size,0,none⟩:Addr).add j=⟨w.heap.size,j,none⟩:=by unfold Addr.add;split <;> simp_all
  rw [hadd,World.cell?_alloc_at _ _ _ _ rfl]
  simpa using hz) (fun z hz=>by simp only [List.mem_singleton] at hz;subst hz;exact Rw.lJ hu) (by unfold maxLen;omega) (by omega) (by rw [wt];omega)
 refine ⟨v',w',q1,⟨by rw [List.length_append];exact k1,by rw [List.length_append,List.length_append,h2];rfl,?_,?_⟩,((hW.alloc hB _).grown k2 (by rw [wt];omega) fun k hk=>(h1.lt k hk).1)⟩
 ·have hal:∀ {z:Value} {q:List (Int × Int × Int × Int)},Rw.Own EN w base z q→Rw.Own EN w' base z q:=by
   intro z q hz
   have hz':Rw.Own EN (w.alloc (.cells #[u] 100)) base z q:=World.ownsRow.alloc hz _
   refine hz'.kept k2 fun g hg=>?_
   exact fi (t1:=64) (t2:=100) hz' (World.ownsRow.alloc h1 _) (Ne.symm neN) g hg
  intro i z q hz hq
  by_cases hlt:i<vs.length
  ·rw [List.getElem?_append_left hlt] at hz
   rw [List.getElem?_append_left (by omega)] at hq
   exact hal (h3 i z q hz hq)
  rw [List.getElem?_append_right (by omega)] at hz
  rw [List.getElem?_append_right (by omega),←h2] at hq
  have hi0:i - vs.length=0:=by
   rcases Nat.eq_zero_or_pos (i - vs.length) with e | e
   ·exact e
   rw [List.getElem?_eq_none (by simp;omega)] at hz;cases hz
  rw [hi0] at hz hq
  simp only [List.getElem?_cons_zero,Option.some.injEq] at hz hq
  subst hz hq
  exact hal hu
 rw [List.pairwise_append]
 refine ⟨h4,by simp,fun z hz z' hz' g hg hg'=>?_⟩
 simp only [List.mem_singleton] at hz'
 subst hz'
 exact hnew g hg' z hz hg
theorem bp.dW {W:World} {base g i:Nat} {T:TypeId} {v:Value} {vs:List Value} {rows:List (List (Int × Int × Int × Int))} {ys:Array Value} (h:bp W base v vs rows) (hv:aH W g T ys) (hT:T≠64) (hT2:T≠100) (x:Value):bp (W.setCell ⟨g,i,none⟩ x) base v vs rows:=by
 obtain ⟨h1,h2,h3,h4⟩:=h
 exact ⟨dM h1 hv hT2 x,h2,fun i u r hu hr=>dM (h3 i u r hu hr) hv hT x,h4⟩
theorem dQ.dW {W:World} {base g i:Nat} {T:TypeId} {v:Value} {rows:List (List (Int × Int × Int × Int))} {ys:Array Value} (h:dQ W base v rows) (hv:aH W g T ys) (hT:T≠64) (hT2:T≠100) (x:Value):dQ (W.setCell ⟨g,i,none⟩ x) base v rows:=h.elim fun vs k=>⟨vs,k.dW hv hT hT2 x⟩
theorem bp.fresh {w w':World} {base b2:Nat} {v u:Value} {vs:List Value} {rows:List (List (Int × Int × Int × Int))} {r:List (Int × Int × Int × Int)} (h:bp w base v vs rows) (hu:Rw.Own EN w' b2 u r) (hb:w.heap.size≤b2):∀ g,u.ownBlock=some g→∀ z ∈ vs,z.ownBlock≠some g:=fun g hg z hz e=>by
 have h1:=(h.lt z hz g e).2
 have h2:=(hu.lt g hg).1
 omega
end
section
open Go Go.RowKit
namespace Rg
variable {P:Program} {Q:Exit→Act→World→Prop}
section
variable (P) (Q) (ops:Array Oper) (a0:Act) (T:List Value) (J:Nat→(Nat→Value)→World→Prop) (C:List Nat)
def oh (o:Oper) (a:Act) (vals:Nat→Value) (t:Nat):Prop:=
 match o.after.toList.find? (fun e=>Region.binds .any e && ((ops[e.on]?).bind (·.dst)) == some t) with
 | some e=>if e.on ∈ C then a.tmps[t]?=some (vals e.on) else a.tmps[t]?=some (T.getD e.on undef)
 | none=>a.tmps[t]?=a0.tmps[t]?
def bK (k:Nat) (o:Oper):Prop:=
 if k ∈ C then ∀ (a:Act) (w:World) (vals:Nat→Value),J (C.idxOf k) vals w→(∀ t ∈ o.looksAt ops,oh ops a0 T C o a vals t)→Region.wanted o (yielded ops a.tmps)=true∧o.wp P a w (fun a' w'=>∃ v,a'=a.put o.dst v∧J (C.idxOf k+1) (dP vals k v) w') Q
 else ∀ (a:Act) (w:World) (n:Nat) (vals:Nat→Value),(n≤C.length∧(∀ c,c ∈ C→gh ops k c=true→n≤C.idxOf c)∧∀ c,c ∈ C→gh ops c k=true→C.idxOf c<n)→J n vals w→(∀ t ∈ o.looksAt ops,oh ops a0 T C o a vals t)→Region.wanted o (yielded ops a.tmps)=true∧(execOp a.eval o).run P w=.ok (.value (T.getD k undef)) w
def qx:List Oper→Nat→Prop
 | [],_=>True
 | o :: os,k=>bK P Q ops a0 T J C k o∧qx os (k+1)
def wA (l:Nat→Bool) (vals:Nat→Value) (w:World):Prop:=
 J (cnt l C) vals w∧∀ i,i ∉ C→l i=true→vals i=T.getD i undef
end
theorem jG {l:Nat→Bool} {c:Nat} (hl:l c=false):∀ C:List Nat,c ∈ C→cnt l C≤C.idxOf c
 | [],h=>by cases h
 | d :: cs,h=>by
  by_cases hd:d=c
  ·subst hd
   unfold cnt
   rw [hl]
   simp
  have hm:c ∈ cs:=by
   rcases List.mem_cons.1 h with e | e
   ·exact absurd e.symm hd
   exact e
  have:=jG hl cs hm
  have e2:(d == c)=false:=by rw [beq_eq_false_iff_ne];exact hd
  rw [List.idxOf_cons,e2]
  unfold cnt
  split
  ·simp only [cond_false];omega
  omega
theorem rW {ops:Array Oper} {l:Nat→Bool} {c:Nat} (hc:iv .any ops l) (hl:l c=true):∀ C:List Nat,dI ops C=true→c ∈ C→C.idxOf c<cnt l C
 | [],_,h=>by cases h
 | [d],_,h=>by
  rcases List.mem_cons.1 h with rfl | h
  ·unfold cnt;rw [hl];simp [cnt]
  cases h
 | d :: e :: cs,ho,h=>by
  unfold dI at ho
  rw [Bool.and_eq_true,Bool.and_eq_true,decide_eq_true_eq] at ho
  obtain ⟨⟨he,-⟩,ho⟩:=ho
  by_cases hd:d=c
  ·subst hd
   unfold cnt
   rw [hl]
   simp
  have hm:c ∈ e :: cs:=by
   rcases List.mem_cons.1 h with q | q
   ·exact absurd q.symm hd
   exact q
  have ih:=rW hc hl (e :: cs) ho hm
  have hle:l e=true:=by
   cases q:l e
   ·exfalso
    have z:cnt l (e :: cs)=0:=by unfold cnt;rw [q];rfl
    omega
   rfl
  have hld:=dF hc he hle
  have e2:(d == c)=false:=by rw [beq_eq_false_iff_ne];exact hd
  rw [List.idxOf_cons,e2]
  have:cnt l (d :: e :: cs)=cnt l (e :: cs)+1:=by rw [cnt];rw [if_pos hld]
  rw [this]
  simp only [cond_false]
  omega
theorem tA {ops:Array Oper} {a0:Act} {T:List Value} {J:Nat→(Nat→Value)→World→Prop} {C:List Nat} (hC:dI ops C=true) (hJ:∀ n v v' w,(∀ i ∈ C,v i=v' i)→J n v w→J n v' w) :
  ∀ (os:List Oper) (k:Nat),(∀ i,os[i]?=ops[k+i]?)→qx P Q ops a0 T J C os k→ft P Q .any ops (wA T J C) a0 os k
 | [],_,_,_=>trivial
 | o :: os,k,hos,h=>by
  refine ⟨fun a w l vals hI hl hc hdep hr=>?_,tA hC hJ os (k+1) (fun i=>by rw [show k+1+i=k+(i+1) by omega,←hos (i+1)];rfl) h.2⟩
  obtain ⟨hB,hv⟩:=hI
  have ho:ops[k]?=some o:=(hos 0).symm
  have hQ:∀ t ∈ o.looksAt ops,oh ops a0 T C o a vals t:=fun t ht=>by
   have:=hr t ht
   unfold rd at this
   unfold oh
   split
   ·rename_i e he
    rw [he] at this
    have h2:=List.find?_some he
    rw [Bool.and_eq_true] at h2
    replace this:a.tmps[t]?=some (vals e.on):=this
    split
    ·exact this
    rename_i n1
    rw [this,hv _ n1 (hdep e (Array.mem_toList_iff.1 (List.mem_of_find?_eq_some he)) h2.1)]
   rename_i he
   rw [he] at this
   exact this
  have hko:∀ j,j≠k→upd l k j=l j:=fun j hj=>if_neg hj
  have h1:=h.1
  unfold bK at h1
  unfold kA
  have rest:∀ v,(k ∉ C→v=T.getD k undef)→∀ i,i ∉ C→upd l k i=true→dP vals k v i=T.getD i undef:=fun v hvk i n1 hi=>by
   by_cases hik:i=k
   ·subst hik
    have:dP vals i v i=v:=if_pos rfl
    rw [this];exact hvk n1
   rw [hko i hik] at hi
   have:dP vals k v i=vals i:=if_neg hik
   rw [this]
   exact hv i n1 hi
  by_cases e3:k ∈ C
  ·rw [if_pos e3] at h1
   obtain ⟨q1,q2⟩:=gL hc hl (fun c hcd=>eO ho hdep hcd) C hC e3
   rw [q1] at hB
   obtain ⟨hw,hwp⟩:=h1 a w vals hB hQ
   rw [if_pos hw]
   refine Oper.wp_mono ?_ hwp
   rintro a' w' ⟨v,e,h2⟩
   exact ⟨v,e,by rw [q2];exact h2,rest v (fun h=>absurd e3 h)⟩
  rw [if_neg e3] at h1
  have hup:∀ c,c ∈ C→gh ops k c=true→cnt l C≤C.idxOf c:=fun c hcm he=>by
   have hlc:l c=false:=by
    cases q:l c
    ·rfl
    rw [dF hc he q] at hl;cases hl
   exact jG hlc C hcm
  obtain ⟨hw,hwp⟩:=h1 a w _ vals ⟨nf C,hup,fun c hcm he=>rW hc (eO ho hdep he) C hC hcm⟩ hB hQ
  rw [if_pos hw]
  unfold Oper.wp
  rw [hwp]
  refine ⟨_,rfl,?_,rest _ (fun _=>rfl)⟩
  rw [ej C e3]
  refine hJ _ _ _ _ (fun i hi=>?_) hB
  have:i≠k:=fun e=>e3 (by rw [←e];exact hi)
  exact (if_neg this).symm
theorem tW {id:Nat} {ops:Array Oper} {a0:Act} {w:World} (J:Nat→(Nat→Value)→World→Prop) (C:List Nat) (T:List Value)
  (hm:P.follows .mixedOrders=true) (hok:dz .any ops a0.tmps.size=true) (hC:dI ops C=true) (hcl:∀ c ∈ C,c<ops.size) (hJ:∀ n v v' w,(∀ i ∈ C,v i=v' i)→J n v w→J n v' w)
  (h0:∀ vals,J 0 vals { w with drawn:=w.drawn+1 })
  (hR:qx P Q ops a0 T J C ops.toList 0)
  (hF:∀ (vals:Nat→Value) (w':World),J C.length vals w'→(∀ i,i<ops.size→i ∉ C→vals i=T.getD i undef)→Q .normal (fill (fun _=>true) vals ops.toList 0 a0) w'):(Code.region id ops true).wp P Q a0 w:=by
 have c0:∀ C:List Nat,cnt (fun _=>false) C=0:=fun C=>by cases C <;> rfl
 have cl:∀ (l:Nat→Bool) (C:List Nat),(∀ c ∈ C,l c=true)→cnt l C=C.length:=fun l C=>by
  induction C with
  | nil=>intro _;rfl
  | cons c cs ih=>
  intro h
  unfold cnt
  rw [if_pos (h c (List.mem_cons_self ..)),ih (fun x hx=>h x (List.mem_cons_of_mem _ hx))]
  rfl
 refine io (wA T J C) hm hok (fun vals=>⟨?_,(fun _ _ h=>absurd h (by simp))⟩) (tA hC hJ ops.toList 0 (fun i=>by rw [Nat.zero_add];exact Array.getElem?_toList) hR) ?_
 ·rw [c0]
  exact h0 vals
 intro l vals w' hl hI
 obtain ⟨h1,h2⟩:=hI
 rw [cl l C (fun c hc=>hl c (hcl c hc))] at h1
 exact hF vals w' h1 (fun i hi n1=>h2 i n1 (hl i hi))
theorem oM {o:Oper} {a:Act} {w w2:World} {x:Value} {K:Value→World→Prop} (h:(execOp a.eval o).run P w=.ok (.value x) w2) (hK:K x w2):o.wp P a w (fun a' w'=>∃ v,a'=a.put o.dst v∧K v w') Q:=by
 unfold Oper.wp
 rw [h]
 exact ⟨x,rfl,hK⟩
theorem uG {o:Oper} {a:Act} {w:World} {ob:Obj} {x:Value} {K:Value→World→Prop} (h:(execOp a.eval o).run P w=.ok (.value x) (w.alloc ob)) (hK:K x (w.alloc ob)):o.wp P a w (fun a' w'=>∃ v,a'=a.put o.dst v∧K v w') Q:=oM h hK
theorem rQ {o:Oper} {a:Act} {w:World} {f:FuncId} {args:Array Value} {K:Value→World→Prop} (h:(execOp a.eval o).run P w=.ok (.enter f args) w) (hc:Calls P f args w fun e w'=>∃ v,e=.returned v∧K v w'):o.wp P a w (fun a' w'=>∃ v,a'=a.put o.dst v∧K v w') Q:=by
 unfold Oper.wp
 rw [h]
 refine Calls.mono hc ?_
 rintro e w' ⟨v,rfl,h1⟩
 exact ⟨v,rfl,h1⟩
theorem iU {o:Oper} {a:Act} {w w2:World} {s x:Operand} {ts:TypeId} {v u v2:Value} (ho:o.op=.call { callee:=.builtin .append,args:=#[s,x],argTypes:=#[ts,ts] }) (hs:a.eval s=v) (hx:a.eval x=u) (h:(Builtin.append_ #[ts,ts] o.type #[v,u]).run P w=.ok v2 w2):(execOp a.eval o).run P w=.ok (.value v2) w2:=by
 unfold execOp
 simp only [ho,resolve,invoke,builtin,Sem.run_bind,Sem.run_pure,Result.andThen_ok,List.map_toArray,List.map_cons,List.map_nil,hs,hx,h]
theorem ly (w:World) (xs:Array Value) (T:TypeId) (i:Nat) (u:Value) (h:xs[i]?=some u):(w.alloc (.cells xs T)).cell? ⟨w.heap.size,i,none⟩=some u:=by
 rw [World.cell?_alloc_at _ _ _ _ rfl]
 exact h
end Rg
end
section
open Go.RowKit
namespace M
def fI (ok:Bool) (n:Nat) (m:Mat) (c:Nat):Sp:=if c=0 then some (0,0) else gd ok (dX n m c)
def fG (ok:Bool) (n:Nat) (m:Mat):Sp:=if n=1 then cV 1 m else gd ok (cV n m)
theorem uY {ok:Bool} {n:Nat} {m:Mat} {c:Nat}:okS (fI ok n m c):=by
 unfold fI
 split
 ·intro p hp
  have:(0,0)=p:=Option.some.inj hp
  subst this
  decide
 exact gw (lG _)
theorem pe {ok:Bool} {n:Nat} {m:Mat} {c:Nat} (h:(ok && (dX n m c).isSome)=true):fI ok n m c=dX n m c:=by
 rw [Bool.and_eq_true] at h
 unfold fI
 split
 ·rename_i hc;subst hc;rfl
 rw [h.1];rfl
theorem ow {ok:Bool} {n:Nat} {m:Mat} (h:(ok && (cV n m).isSome)=true):fG ok n m=cV n m:=by
 rw [Bool.and_eq_true] at h
 unfold fG
 split
 ·rename_i hc;subst hc;rfl
 rw [h.1];rfl
theorem tm {ok:Bool} {n:Nat} {m:Mat} (h:okM m):okS (fG ok n m):=by
 unfold fG
 split
 ·exact ij h 1
 exact gw (ij h _)
theorem pw {ok fc f1:Bool} {n c:Nat} {m:Mat} {q:Int × Int} {u1 u2:Sp} (hfc:fc=(ok && (dX n m c).isSome)) (hf1:f1=(fc && (cV (n+1) (cG m c)).isSome)) (hu1:u1=fG fc (n+1) (cG m c)) (hq:(m.headD [])[c]?=some q) (hu2:u2=gd f1 (eS (some q) u1)) :
  gd u2.isSome (dh (fI ok n m c) u2 c)=fI ok n m (c+1)∧(gd u2.isSome (dh (fI ok n m c) u2 c)).isSome=(ok && (dX n m (c+1)).isSome):=by
 have e:fI ok n m (c+1)=gd ok (dX n m (c+1)):=if_neg (by omega)
 have key:gd u2.isSome (dh (fI ok n m c) u2 c)=gd ok (dX n m (c+1)):=by
  rw [fo,hq]
  cases ok with
  | false=>
   have:f1=false:=by rw [hf1,hfc];rfl
   rw [hu2,this]
   rfl
  | true=>
  cases hS:dX n m c with
  | none=>
   have:f1=false:=by rw [hf1,hfc,hS];rfl
   rw [hu2,this,jh]
   rfl
  | some s=>
  cases hD:cV (n+1) (cG m c) with
  | none=>
   have:f1=false:=by rw [hf1,hD,Bool.and_comm];rfl
   have e2:eS (some q) none=none:=rfl
   rw [hu2,this,e2,eC]
   rfl
  | some d=>
  have h1:fc=true:=by rw [hfc,hS];rfl
  have h2:f1=true:=by rw [hf1,h1,hD];rfl
  have h3:u1=some d:=by rw [hu1,ow (by rw [h1,hD];rfl),hD]
  have h4:fI true n m c=some s:=by rw [pe (by rw [hS];rfl),hS]
  rw [h4,hu2,h2,h3]
  show gd (eS (some q) (some d)).isSome (dh (some s) (eS (some q) (some d)) c)=dh (some s) (eS (some q) (some d)) c
  cases eS (some q) (some d) with
  | none=>rw [eC];rfl
  | some u=>rfl
 exact ⟨key.trans e.symm,by rw [key];cases ok <;> rfl⟩
theorem qm {ok:Bool} {n:Nat} {m:Mat} {c:Nat} (h:(ok && (dX n m c).isSome)=true):(fI ok n m c).isSome=true:=by
 rw [pe h]
 rw [Bool.and_eq_true] at h
 exact h.2
theorem pu {ok:Bool} {n:Nat} {m:Mat} (h:(ok && (cV n m).isSome)=true):(fG ok n m).isSome=true:=by
 rw [ow h]
 rw [Bool.and_eq_true] at h
 exact h.2
theorem tP {ok:Bool} {n:Nat} {m:Mat} (hm:square (n+2) m):fI ok n m (n+2)=fG ok (n+2) m∧(ok && (dX n m (n+2)).isSome)=(ok && (cV (n+2) m).isSome):=by
 have hl:(m.headD []).length=n+2:=by
  cases m with
  | nil=>have:=hm.1;simp only [List.length_nil] at this;omega
  | cons r m=>exact hm.2 r (List.mem_cons_self ..)
 have e:cV (n+2) m=dX n m (n+2):=by rw [iX,hl]
 unfold fI fG
 rw [if_neg (by omega),if_neg (by omega),e]
 exact ⟨rfl,rfl⟩
theorem qM {m:Mat} {c i:Nat} {r:List (Int × Int)} (h:m[i+1]?=some r):(cG m c)[i]?=some (r.take c ++ r.drop (c+1)):=by
 unfold cG
 rw [List.getElem?_map,List.getElem?_tail,h]
 rfl
theorem nv {m:Mat} {c n:Nat} (h:m.length=n+1):(cG m c).length=n:=by
 unfold cG
 rw [List.length_map,List.length_tail,h]
 rfl
theorem iD {α:Type} {l:List α} {i:Nat} {x:α} (h:l[i]?=some x):l.take (i+1)=l.take i ++ [x]:=by
 rw [List.take_add_one,h]
 rfl
end M
theorem bV.rowIs {w:World} {base:Nat} {v:Value} {vs:List Value} {rows:List (List (Int × Int))} (h:bV w base v vs rows) {i:Nat} {r:List (Int × Int)} (hr:rows[i]?=some r) (hne:r≠[]) :
  ∃ (g2 cap2:Nat),vs[i]?=some (.slice (some ⟨g2,0,none⟩) r.length cap2)∧r.length≤cap2∧g2<w.heap.size:=by
 have hi:=(List.getElem?_eq_some_iff.1 hr).1
 have hl:=h.2.1
 have hu:vs[i]?=some (vs[i]'(by omega)):=List.getElem?_eq_getElem (by omega)
 rcases (h.2.2.1 i _ r hu hr).forms with ⟨-,h4⟩ | ⟨g2,cap2,e,hg,hg2,hc2,-⟩
 ·exact absurd h4 hne
 exact ⟨g2,cap2,by rw [hu,e],hc2,hg2⟩
theorem bV.form {w:World} {base:Nat} {v:Value} {vs:List Value} {rows:List (List (Int × Int))} (h:bV w base v vs rows) (hne:rows≠[]):∃ (g cap:Nat),v=.slice (some ⟨g,0,none⟩) rows.length cap∧rows.length≤cap∧cap≤9223372036854775807∧g<w.heap.size:=by
 rcases h.1.2 with ⟨-,h2⟩ | ⟨g,cap,cur,e,hg,hh,hc,hm,-⟩
 ·exact absurd (List.eq_nil_of_length_eq_zero h2) hne
 exact ⟨g,cap,e,hc,by unfold maxLen at hm;omega,(Array.getElem?_eq_some_iff.1 hh).1⟩
theorem bV.gR {w:World} {base g n cap:Nat} {vs:List Value} {rows:List (List (Int × Int))} (h:bV w base (.slice (some ⟨g,0,none⟩) n cap) vs rows) {i:Nat} {u:Value} (hu:vs[i]?=some u):w.cell? ⟨g,i,none⟩=some u:=by
 have hi:=(List.getElem?_eq_some_iff.1 hu).1
 have hl:=h.2.1
 have h1:=h.1
 rcases h1.2 with ⟨e,-⟩ | ⟨g1,c1,cur1,e,-⟩
 ·cases e
 injection e with _ e2 _
 subst e2
 exact (World.ownsRow.cellAt h1 i (by omega)).trans hu
theorem bV.rowFrom {w:World} {base:Nat} {v:Value} {vs:List Value} {rows:List (List (Int × Int))} (h:bV w base v vs rows) {i g2 cap2 n2:Nat} {r:List (Int × Int)} (hu:vs[i]?=some (.slice (some ⟨g2,0,none⟩) n2 cap2)) (hr:rows[i]?=some r):Rw.From EP w (some ⟨g2,0,none⟩) r:=by
 have ho:=h.2.2.1 i _ r hu hr
 rcases ho.forms with ⟨e,-⟩ | ⟨g3,cap3,e,hg,hg3,hc3,-⟩
 ·cases e
 injection e with e1 e2 e3
 have:=ho.ur e2 (ho.lt g2 rfl).2 (ww _ w) r.length
 rw [List.take_length] at this
 exact this
theorem Rw.From.at2 {w:World} {g c:Nat} {r:List (Int × Int)} {q:Int × Int} (h:Rw.From EP w (some ⟨g,0,none⟩) r) (hq:r[c]?=some q):w.cell? ⟨g,c*2,none⟩=some (.int .i64 q.1)∧w.cell? ⟨g,c*2+1,none⟩=some (.int .i64 q.2):=by
 have hadd:∀ b i:Nat,(⟨b,0,none⟩:Addr).add i=⟨b,i,none⟩:=fun b i=>by unfold Addr.add;split <;> simp_all
 have hc:∀ (t:Nat) (u:Value),t<2→(EP.cells q)[t]?=some u→w.cell? ⟨g,c*2+t,none⟩=some u:=fun t u ht hu=>by
  obtain ⟨ad,e,hh⟩:=h (c*2+t) u ((Rw.flat_get EP r c t q hq ht).trans hu)
  have:=Option.some.inj e
  subst this
  rw [hadd] at hh
  exact hh
 exact ⟨hc 0 _ (by decide) rfl,hc 1 _ (by decide) rfl⟩
theorem bV.uD {w w':World} {base g:Nat} {T:TypeId} {v x y:Value} {vs:List Value} {rows:List (List (Int × Int))} (h:bV w base v vs rows) (K:aH w g T #[x]) (hT:T≠68) (hT2:T≠110) (hb:Below w.heap.size (w.setCell ⟨g,0,none⟩ y) w'):bV w' base v vs rows:=
 (h.dW K hT hT2 y).below (bD hb)
end
end Go.Proofs.YtgfkcoablfjbcaaGreat
