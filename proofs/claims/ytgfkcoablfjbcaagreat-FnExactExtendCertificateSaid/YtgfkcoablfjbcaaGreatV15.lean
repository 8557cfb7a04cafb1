/-
  Joined texts: contracts and plain lemmas.
-/
import Derived.Test.YtgfkcoablfjbcaaGreatV1
import Derived.Test.YtgfkcoablfjbcaaGreatV14
import Derived.Test.YtgfkcoablfjbcaaGreatShG
set_option linter.unusedSimpArgs false
set_option linter.unusedVariables false
set_option maxRecDepth 100000
set_option maxHeartbeats 8000000
namespace Go.Proofs.YtgfkcoablfjbcaaGreat
section
open Go.RowKit
theorem oO (gm n:Nat):eS gm n n=((List.range n).map fun i=>Value.slice (some ⟨gm+1+i,0,none⟩) n n).toArray:=by
 unfold eS
 congr 1
 apply List.map_congr_left
 intro i hi;rw [if_pos (List.mem_range.1 hi)]
theorem jF (a b:Int) (v:Value) (l:List Pt) (w:World) (hx:dN w v l) (hg:M.good a b=true) (hn:l.length≤4) (hp:∀ p ∈ l,M.bV a b p.1 p.2.1 p.2.2=true) :
  Calls Tryz.prog 58 #[.agg #[.int .i64 a,.int .i64 b],v] w fun e w'=>∃ mv,e=.returned (.tuple #[mv,.bool (M.Ak a b l)])∧dz w' w.heap.size mv (M.dx a b l)∧Below w.heap.size w w':=by
 have hin:=M.bM hg;obtain ⟨sa,cap,rfl,hv⟩:=hx;have hv:=yJ hv;have hp:=yJ hp
 obtain ⟨N,hN⟩:∃ N,Hid (l.length=N):=⟨_,yJ rfl⟩
 rw [hN.out] at hn ⊢
 have hmk:=fun W=>vL W N hn
 have hms:=fun W=>tu W N hn
 have B:=((yM w.heap.size w).alloc (yN _) (.cells #[.int .i64 a,.int .i64 b] 29)).alloc (by rw [yK];omega) (.cells (Array.replicate N (Value.slice none 0 0)) 110);have C:=(aH.new w #[.int .i64 a,.int .i64 b] 29).alloc (.cells (Array.replicate N (Value.slice none 0 0)) 110);have G:=aH.new (w.alloc (.cells #[.int .i64 a,.int .i64 b] 29)) (Array.replicate N (Value.slice none 0 0)) 110;rw [yK] at G
 have hz:((w.alloc (.cells #[.int .i64 a,.int .i64 b] 29)).alloc (.cells (Array.replicate N (Value.slice none 0 0)) 110)).heap.size=w.heap.size+1+1:=by rw [yK,yK]
 generalize hw3:(w.alloc (.cells #[.int .i64 a,.int .i64 b] 29)).alloc (.cells (Array.replicate N (Value.slice none 0 0)) 110)=wc at *
 have hr0:Array.replicate N (Value.slice none 0 0)=eS (w.heap.size+1) N 0:=by rw [oQ,List.toArray_replicate]
 rw [hr0] at G;clear hr0;go_enter Tryz.func58,Tryz.ntmps58
 go_wp2
 go_loopw [20] (fun vk wr=>∃ k:Nat,k≤N∧vk=.int .i64 k∧aH wr (w.heap.size+1) 110 (eS (w.heap.size+1) N k)∧wr.heap.size=w.heap.size+1+1+k∧(∀ i,i<k→aH wr (w.heap.size+1+1+i) 68 (bq (List.replicate N (0,0))))∧aH wr w.heap.size 29 #[.int .i64 a,.int .i64 b]∧Below w.heap.size w wr) (fun vk _=>N - (intOf vk).toNat)
 case atStart=>exact ⟨0,Nat.zero_le _,rfl,G,hz,fun i h=>absurd h (by omega),C,B⟩
 case round=>
 clear C B G hz hw3;obtain ⟨k,hk,rfl,G,hz,hrow,C,B⟩:=hrel
 by_cases hlt:k<N
 ·have Gb:=G.lt
  have G2:=G.alloc (.cells (bq (List.replicate N (0,0))) 68);have g0:=(G2.cell k).trans (rk hlt);have gf:=G2.yW k;have Gn:=aH.new wr (bq (List.replicate N (0,0))) 68;have C2:=C.alloc (.cells (bq (List.replicate N (0,0))) 68);have B2:=B.alloc B.size (.cells (bq (List.replicate N (0,0))) 68);go_wp2
  go_roundw
  case rel=>
   refine ⟨k+1,by omega,by go_num,?_,?_,fun i hi2=>?_,C2.other (by omega) _,yL B2 (by simp) _⟩
   ·rw [←oP hlt,←hz]
    exact G2.set k _
   ·rw [aZ,yK];omega
   rcases Nat.lt_or_ge i k with q | q
   ·exact ((hrow i q).alloc _).other (by omega) _
   obtain rfl:i=k:=by omega
   rw [←hz];exact Gn.other (by omega) _
  case measure=>simp [intOf] <;> omega
 obtain rfl:N=k:=by omega
 have hG:eG wr (w.heap.size+1) N (List.replicate N (List.replicate N (0,0))):=by
  refine ⟨List.length_replicate,by rw [←oO];exact G,fun i r hr=>?_⟩
  have hi:i<N:=by
   have:=(List.getElem?_eq_some_iff.1 hr).1;rw [List.length_replicate] at this;exact this
  rw [List.getElem?_replicate,if_pos hi] at hr;have e:=Option.some.inj hr;subst e;exact ⟨List.length_replicate,hrow i hi⟩
 rw [M.ru _ (M.fe a b l)] at hG;clear G hrow hz hmk hms hlt
 have hno:=yJ fun i j h1 h2 h=>M.tn (a:=a) (b:=b) (l:=l) (i:=i) (j:=j) h1 h2 h
 have hrn:=yJ fun h=>M.uB (a:=a) (b:=b) (l:=l) h
 go_wp2
 go_loopw [32] (fun vi wq=>∃ i:Nat,i≤N∧vi=.int .i64 i∧Hid (∀ i',i'<i→∀ j,j<l.length→(M.ent a b l i' j).isSome=true)∧Hid (eG wq (w.heap.size+1) N (M.dF N (M.done i i) (M.fe a b l)))∧aH wq w.heap.size 29 #[.int .i64 a,.int .i64 b]∧Below w.heap.size w wq) (fun vi _=>N - (intOf vi).toNat)
 case atStart=>exact ⟨0,Nat.zero_le _,rfl,yJ (fun i' h=>absurd h (by omega)),yJ hG,C,B⟩
 case round=>
 clear C B hG;obtain ⟨i,hi,rfl,hall,hG,C,B⟩:=hrel
 by_cases hlt:i<N
 ·obtain ⟨x,hx⟩:∃ x,l[i]?=some x:=⟨_,List.getElem?_eq_getElem (by have:=hN.out;omega)⟩
  obtain ⟨g,rfl,hpt⟩:∃ g,sa=some ⟨g,0,none⟩∧eV w g l:=by
   rcases hv.out with h | h
   ·rw [h] at hx;cases hx
   exact h
  have hpt:=yJ hpt;obtain ⟨d0,d1,d2⟩:=(hpt.out.below B) i x hx;have hpx:=hp.out x (List.mem_of_getElem? hx);have he:=M.nX (a:=a) (b:=b) hx;have hx:=yJ hx;obtain ⟨x1,x2,x3⟩:=x;simp only [] at d0 d1 d2 hpx he;have hb1:=M.ej hin hpx
  have PS:=fun W=>kz a b x1 x2 x3 W hg hb1.1 hb1.2.1 hb1.2.2.1 hb1.2.2.2.1
  clear hb1;generalize M.ek a b x1 x3=ss at *;have hni:=hno.out i i (by have:=hN.out;omega) (by have:=hN.out;omega);rw [he] at hni;have hgs:=hG.out.size (by omega);have Bv:=(yM wr.heap.size wr).alloc (yN _) (.cells #[.int .i64 x1,.int .i64 x2,.int .i64 x3] 57);have C1:=C.alloc (.cells #[.int .i64 x1,.int .i64 x2,.int .i64 x3] 57);have Z1:=aH.new wr #[.int .i64 x1,.int .i64 x2,.int .i64 x3] 57;have j_:=C1.box.c0;have o_:=C1.box.c1;have ⟨z0,z1,z2⟩:=Z1.aQ
  cases ss with
  | none=>
   have hfin:=yJ (hni rfl);have hfr:=yJ (hrn.out hfin.out);have e9:=yJ (show M.yx none=0∧M.y_ none=0∧(none:M.Sp).isSome=false from ⟨rfl,rfl,rfl⟩);rw [e9.out.1,e9.out.2.1,e9.out.2.2] at PS;clear hni hno hrn e9 he;replace PS:=yJ PS
   go_wp2_with (go_at_call 77;(with_reducible refine (PS.out _).mono ?_);rintro e w4 ⟨rfl,hb4⟩;replace Bv:=(i_ Bv hb4).alloc (Nat.le_trans Bv.size hb4.size) (.cells #[.int .i64 0,.int .i64 0] 68);have V:=aH.new w4 #[.int .i64 0,.int .i64 0] 68;have Au:=hb4.size;(rw [yK] at Au);replace Z1:=(Z1.keep hb4).alloc (.cells #[.int .i64 0,.int .i64 0] 68);(have ⟨v0,v1,_,_,_⟩:=V.box))
   go_ret2;exact ⟨_,by rw [hfin.out];rfl,by rw [hfr.out];exact dz.nil _ _,i_ B Bv⟩
  | some q=>
  have hqe:M.fe a b l i i=q:=by unfold M.fe;rw [he];rfl
  have hqe:=yJ hqe;have hsm:=yJ (show (M.ent a b l i i).isSome=true by rw [he];rfl);obtain ⟨q1,q2⟩:=q;have e1:M.yx (some (q1,q2))=q1:=rfl;have e2:M.y_ (some (q1,q2))=q2:=rfl;have e5:(some (q1,q2):M.Sp).isSome=true:=rfl;rw [e1,e2,e5] at PS;clear hni he e1 e2 e5;replace PS:=yJ PS
  go_upto_region 13 with (go_at_call 77;(with_reducible refine (PS.out _).mono ?_);rintro e w4 ⟨rfl,hb4⟩;replace Bv:=(i_ Bv hb4).alloc (Nat.le_trans Bv.size hb4.size) (.cells #[.int .i64 q1,.int .i64 q2] 68);have V:=aH.new w4 #[.int .i64 q1,.int .i64 q2] 68;have Au:=hb4.size;(rw [yK] at Au);replace Z1:=(Z1.keep hb4).alloc (.cells #[.int .i64 q1,.int .i64 q2] 68);(have ⟨v0,v1,_,_,_⟩:=V.box))
  have hM:=(show da w N a b x1 x2 x3 wr.heap.size _ _ from ⟨hG.out.below Bv,C.keep Bv,⟨by omega,Z1⟩,i_ B Bv⟩)
  have hS:=(show es w N w4.heap.size (q1,q2) _ from ⟨by omega,V⟩)
  clear Bv C1 C j_ o_ z0 z1 z2 v0 v1 d0 d1 d2 PS Z1 V B hG Au hb4
  have hii:((i:Nat):Int)≤4:=by omega
  generalize wr.heap.size=pb,w4.heap.size=sb,w4.alloc (.cells #[.int .i64 q1,.int .i64 q2] 68)=wd at *;have hM:=yJ hM;have hS:=yJ hS;refine Rg.wQ (fun n W=>da w N a b x1 x2 x3 pb (M.dF N (M.done i (i+n)) (M.fe a b l)) W∧es w N sb (q1,q2) W) [7] [.slice (some ⟨w.heap.size+1,0,none⟩) N N,.int .i64 ((i:Nat):Int),.pointer (some ⟨w.heap.size+1,i,none⟩),.slice (some ⟨w.heap.size+1+1+i,0,none⟩) N N,.int .i64 ((i:Nat):Int),.agg #[.int .i64 q1,.int .i64 q2],.pointer (some ⟨w.heap.size+1+1+i,i*2,none⟩),undef] (by kernel_rfl) (by kernel_rfl) (by kernel_rfl) (by decide) (⟨hM.out.below (yM _ wd).drew,hS.out.below (yM _ wd).drew⟩) ⟨?_,?_,?_,?_,?_,?_,?_,?_,trivial⟩ ?_
  ·unfold Rg.bp
   rw [if_neg (by decide)];intro zZ w_ n_ zg hJ hr;refine ⟨rfl,?_⟩;have e6:zZ.tmps[6]?=some (.slice (some ⟨w.heap.size+1,0,none⟩) N N):=hr 6 (by decide)
   go_simp
  ·unfold Rg.bp
   rw [if_neg (by decide)];intro zZ w_ n_ zg hJ hr;refine ⟨rfl,?_⟩;have e8:zZ.tmps[8]?=some (.int .i64 ((i:Nat):Int)):=hr 8 (by decide)
   go_simp
  ·unfold Rg.bp
   rw [if_neg (by decide)];intro zZ w_ n_ zg hJ hr;refine ⟨rfl,?_⟩;have e45:zZ.tmps[45]?=some (.slice (some ⟨w.heap.size+1,0,none⟩) N N):=hr 45 (by decide);have e46:zZ.tmps[46]?=some (.int .i64 ((i:Nat):Int)):=hr 46 (by decide)
   have Bg:((i:Nat):Int)<(N:Int):=by omega
   first | (go_simp;done) | (go_simp;omega)
  ·unfold Rg.bp
   rw [if_neg (by decide)];intro zZ w_ n_ zg hJ hr;refine ⟨rfl,?_⟩;have e47:zZ.tmps[47]?=some (.pointer (some ⟨w.heap.size+1,i,none⟩)):=hr 47 (by decide);have hr_:=eG.row hJ.1.1 (i:=i) (by omega)
   first | (go_simp;done)
  ·unfold Rg.bp
   rw [if_neg (by decide)];intro zZ w_ n_ zg hJ hr;refine ⟨rfl,?_⟩;have e8:zZ.tmps[8]?=some (.int .i64 ((i:Nat):Int)):=hr 8 (by decide)
   go_simp
  ·unfold Rg.bp
   rw [if_neg (by decide)];intro zZ w_ n_ zg hJ hr;refine ⟨rfl,?_⟩;have e10:zZ.tmps[10]?=some (.pointer (some ⟨sb,0,none⟩)):=hr 10 (by decide);have k0:=hJ.2.2.box.c0;have k1:=hJ.2.2.box.c1
   go_simp
  ·unfold Rg.bp
   rw [if_neg (by decide)];intro zZ w_ n_ zg hJ hr;refine ⟨rfl,?_⟩;have e48:zZ.tmps[48]?=some (.slice (some ⟨w.heap.size+1+1+i,0,none⟩) N N):=hr 48 (by decide);have e49:zZ.tmps[49]?=some (.int .i64 ((i:Nat):Int)):=hr 49 (by decide)
   have Bg:((i:Nat):Int)<(N:Int):=by omega
   first | (go_simp;done) | (go_simp;omega)
  ·unfold Rg.bp
   rw [if_pos (by decide)];intro zZ w_ hJ hr;have e50:zZ.tmps[50]?=some (.agg #[.int .i64 q1,.int .i64 q2]):=hr 50 (by decide);have e51:zZ.tmps[51]?=some (.pointer (some ⟨w.heap.size+1+1+i,i*2,none⟩)):=hr 51 (by decide);refine ⟨rfl,?_⟩;obtain ⟨CJ,FL⟩:=hJ;have CJ:da w N a b x1 x2 x3 pb (M.dF N (M.done i i) (M.fe a b l)) w_:=CJ;have ⟨y0,y1,FY,AP,xl_⟩:=eG.cells CJ.1 (i:=i) (j:=i) (M.dY _ _ (by omega)) (M.eF _ _ (by omega))
   have Bg:((i:Nat):Int)<(N:Int):=by omega
   have CH:=da.put CJ (i:=i) (j:=i) (q:=(q1,q2)) (rows':=M.dF N (M.done i (i+1)) (M.fe a b l)) (M.dY _ _ (by omega)) (by omega) (by rw [←hqe.out];exact M.uH _ (by omega));have Dq:=es.put FL (i:=i) (j1:=i*2) (j2:=i*2+1) (u:=.int .i64 q1) (v:=.int .i64 q2) (by omega);clear CJ FL;unfold Oper.wp
   go_simp
   all_goals first | exact CH | exact ⟨CH,Dq⟩
  intro vals wz hJ hv;simp only [Rg.ak,Rg.fill,Act.put,Nat.reduceAdd];clear hv;obtain ⟨hM2,-⟩:=hJ;have hM2:da w N a b x1 x2 x3 pb (M.dF N (M.done i (i+1)) (M.fe a b l)) wz:=hM2;clear hM hS hqe;go_wp2
  go_loopw [12] (fun vk wq=>∃ k:Nat,i+1≤k∧k≤N∧vk=.int .i64 k∧Hid (∀ j,i≤j→j<k→(M.ent a b l i j).isSome=true)∧Hid (da w N a b x1 x2 x3 pb (M.dF N (M.done i k) (M.fe a b l)) wq)) (fun vk _=>N - (intOf vk).toNat)
  case atStart=>exact ⟨i+1,yN _,by omega,by go_num,yJ (fun j h1 h2=>by obtain rfl:j=i:=(by omega);exact hsm.out),yJ hM2⟩
  case round=>
  clear hM2;obtain ⟨k,hk1,hk2,rfl,An,hM⟩:=hrel
  by_cases hlt2:k<N
  ·obtain ⟨y,hy⟩:∃ y,l[k]?=some y:=⟨_,List.getElem?_eq_getElem (by have:=hN.out;omega)⟩
   have B:=hM.out.2.2.2;obtain ⟨d0,d1,d2⟩:=(hpt.out.below B) k y hy;have hpy:=hp.out y (List.mem_of_getElem? hy);have he:=M.nW (a:=a) (b:=b) hx.out hy hk1;clear hy;obtain ⟨y1,y2,y3⟩:=y;simp only [] at d0 d1 d2 hpy he
   have PP:=fun W=>rU a b x1 x2 x3 y1 y2 y3 W hg hpx hpy
   generalize M.dc a b x1 x2 x3 y1 y2 y3=ss at *;have hni:=hno.out i k (by have:=hN.out;omega) (by have:=hN.out;omega);rw [he] at hni;have C:=hM.out.2.1;have Z:=hM.out.2.2.1.2;have hgs:=hM.out.1.size (by omega)
   have hkk:((k:Nat):Int)<(N:Int):=by omega
   have hlt3:i<k:=hk1
   cases ss with
   | none=>
    have hfin:=yJ (hni rfl);have hfr:=yJ (hrn.out hfin.out);have e9:=yJ (show M.yx none=0∧M.y_ none=0∧(none:M.Sp).isSome=false from ⟨rfl,rfl,rfl⟩);rw [e9.out.1,e9.out.2.1,e9.out.2.2] at PP;clear hni hno hrn e9 he;replace PP:=yJ PP
    go_upto_region 17 with fail
    refine Rg.wO 10 11 68 #[.int .i64 0,.int .i64 0] #[.int .i64 0,.int .i64 0] [.is (.agg #[.int .i64 a,.int .i64 b]),.is (.agg #[.int .i64 x1,.int .i64 x2,.int .i64 x3]),.is (.slice (some ⟨g,0,none⟩) N cap),.is (.int .i64 ((k:Nat):Int)),.is (.pointer (some ⟨g,k*3,none⟩)),.is (.agg #[.int .i64 y1,.int .i64 y2,.int .i64 y3]),.is (.tuple #[.agg #[.int .i64 0,.int .i64 0],.bool false]),.is (.tuple #[.agg #[.int .i64 0,.int .i64 0],.bool false]),.is (.agg #[.int .i64 0,.int .i64 0]),.is (.bool false),.is (undef),.is (undef),.is (.bool false)] (by kernel_rfl) (by kernel_rfl) (by kernel_rfl) (fun j h1 h2=>match j,h1,h2 with | 0,h1,h2=>rfl | 1,h1,h2=>rfl | 2,h1,h2=>rfl | 3,h1,h2=>rfl | 4,h1,h2=>rfl | 5,h1,h2=>rfl | 6,h1,h2=>rfl | 7,h1,h2=>rfl | 8,h1,h2=>rfl | 9,h1,h2=>rfl | 10,h1,h2=>absurd rfl h1 | 11,h1,h2=>absurd rfl h2 | 12,h1,h2=>rfl | n+13,_,_=>rfl) (by decide) ⟨?_,?_,?_,?_,?_,?_,?_,?_,?_,?_,?_,?_,?_,trivial⟩ ?_
    ·unfold Rg.be
     rw [if_neg (by decide),if_neg (by decide)];intro zZ w_ hB hr;have e2:zZ.tmps[2]?=some (.pointer (some ⟨w.heap.size,0,none⟩)):=hr 2 (by decide);have k0:=aE hB C.box.c0;have k1:=aE hB C.box.c1;exact Rg.aG rfl (by go_simp)
    ·unfold Rg.be
     rw [if_neg (by decide),if_neg (by decide)];intro zZ w_ hB hr;have e9:zZ.tmps[9]?=some (.pointer (some ⟨pb,0,none⟩)):=hr 9 (by decide);have k0:=aE hB Z.aQ.1;have k1:=aE hB Z.aQ.2.1;have k2:=aE hB Z.aQ.2.2;exact Rg.aG rfl (by go_simp)
    ·unfold Rg.be
     rw [if_neg (by decide),if_neg (by decide)];intro zZ w_ hB hr;have e1:zZ.tmps[1]?=some (.slice (some ⟨g,0,none⟩) N cap):=hr 1 (by decide);exact Rg.aG rfl (by go_simp)
    ·unfold Rg.be
     rw [if_neg (by decide),if_neg (by decide)];intro zZ w_ hB hr;have e12:zZ.tmps[12]?=some (.int .i64 ((k:Nat):Int)):=hr 12 (by decide);exact Rg.aG rfl (by go_simp)
    ·unfold Rg.be
     rw [if_neg (by decide),if_neg (by decide)];intro zZ w_ hB hr;have e63:=Rg.a_ (hr 63 (by decide));have e64:=Rg.a_ (hr 64 (by decide));exact Rg.aG rfl (by first | (go_simp;done) | (go_simp;omega))
    ·unfold Rg.be
     rw [if_neg (by decide),if_neg (by decide)];intro zZ w_ hB hr;have e65:=Rg.a_ (hr 65 (by decide));have k0:=aE hB d0;have k1:=aE hB d1;have k2:=aE hB d2;exact Rg.aG rfl (by first | (go_simp;done))
    ·unfold Rg.be
     rw [if_neg (by decide),if_neg (by decide)];intro zZ w_ hB hr;have e61:=Rg.a_ (hr 61 (by decide));have e62:=Rg.a_ (hr 62 (by decide));have e66:=Rg.a_ (hr 66 (by decide));have ef:=Rg.ef zZ;exact Rg.bU rfl (by go_simp) (PP.out _)
    ·unfold Rg.be
     rw [if_neg (by decide),if_neg (by decide)];intro zZ w_ hB hr;have e67:=Rg.a_ (hr 67 (by decide));exact Rg.aG rfl (by go_simp)
    ·unfold Rg.be
     rw [if_neg (by decide),if_neg (by decide)];intro zZ w_ hB hr;have e60:=Rg.a_ (hr 60 (by decide));exact Rg.aG rfl (by go_simp)
    ·unfold Rg.be
     rw [if_neg (by decide),if_neg (by decide)];intro zZ w_ hB hr;have e60:=Rg.a_ (hr 60 (by decide));exact Rg.aG rfl (by go_simp)
    ·unfold Rg.be
     rw [if_pos rfl];intro zZ w_;exact Rg.lw rfl (by first | (go_simp;done) | (go_simp;rfl))
    ·unfold Rg.be
     rw [if_neg (by decide),if_pos rfl];intro zZ w_ h_ hh hn hr;have e13:zZ.tmps[13]?=some (.pointer (some ⟨h_,0,none⟩)):=hr 13 (by decide);have e68:=Rg.a_ (hr 68 (by decide));have ⟨y0,y1,x0,x1,_⟩:=hn.box;refine ⟨rfl,?_⟩;unfold Oper.wp
     go_simp
     exact ⟨aH.set2 hn _ _,yL (yL (yM _ _) hh _) hh _⟩
    ·unfold Rg.be
     rw [if_neg (by decide),if_neg (by decide)];intro zZ w_ hB hr;have e69:=Rg.a_ (hr 69 (by decide));exact Rg.aG rfl (by go_simp)
    intro vals wz h_ hh hn yn hB hv;have BH:vals 12=.bool false:=hv 12 (by decide) (by decide) (by decide);simp only [Rg.ak,Rg.fill,Act.put,Nat.reduceAdd];clear hv;simp only [yn,BH];clear yn BH;go_wp2;go_ret2;exact ⟨_,by rw [hfin.out];rfl,by rw [hfr.out];exact dz.nil _ _,i_ B hB⟩
   | some q=>
   have hqe:M.fe a b l i k=q:=by unfold M.fe;rw [he];rfl
   have hqe:=yJ hqe;have NK:=yJ (show (M.ent a b l i k).isSome=true by rw [he];rfl);obtain ⟨q1,q2⟩:=q;have e1:M.yx (some (q1,q2))=q1:=rfl;have e2:M.y_ (some (q1,q2))=q2:=rfl;have e5:(some (q1,q2):M.Sp).isSome=true:=rfl;rw [e1,e2,e5] at PP;clear hni he e1 e2 e5;replace PP:=yJ PP
   go_upto_region 17 with fail
   refine Rg.wO 10 11 68 #[.int .i64 0,.int .i64 0] #[.int .i64 q1,.int .i64 q2] [.is (.agg #[.int .i64 a,.int .i64 b]),.is (.agg #[.int .i64 x1,.int .i64 x2,.int .i64 x3]),.is (.slice (some ⟨g,0,none⟩) N cap),.is (.int .i64 ((k:Nat):Int)),.is (.pointer (some ⟨g,k*3,none⟩)),.is (.agg #[.int .i64 y1,.int .i64 y2,.int .i64 y3]),.is (.tuple #[.agg #[.int .i64 q1,.int .i64 q2],.bool true]),.is (.tuple #[.agg #[.int .i64 q1,.int .i64 q2],.bool true]),.is (.agg #[.int .i64 q1,.int .i64 q2]),.is (.bool true),.is (undef),.is (undef),.is (.bool true)] (by kernel_rfl) (by kernel_rfl) (by kernel_rfl) (fun j h1 h2=>match j,h1,h2 with | 0,h1,h2=>rfl | 1,h1,h2=>rfl | 2,h1,h2=>rfl | 3,h1,h2=>rfl | 4,h1,h2=>rfl | 5,h1,h2=>rfl | 6,h1,h2=>rfl | 7,h1,h2=>rfl | 8,h1,h2=>rfl | 9,h1,h2=>rfl | 10,h1,h2=>absurd rfl h1 | 11,h1,h2=>absurd rfl h2 | 12,h1,h2=>rfl | n+13,_,_=>rfl) (by decide) ⟨?_,?_,?_,?_,?_,?_,?_,?_,?_,?_,?_,?_,?_,trivial⟩ ?_
   ·unfold Rg.be
    rw [if_neg (by decide),if_neg (by decide)];intro zZ w_ hB hr;have e2:zZ.tmps[2]?=some (.pointer (some ⟨w.heap.size,0,none⟩)):=hr 2 (by decide);have k0:=aE hB C.box.c0;have k1:=aE hB C.box.c1;exact Rg.aG rfl (by go_simp)
   ·unfold Rg.be
    rw [if_neg (by decide),if_neg (by decide)];intro zZ w_ hB hr;have e9:zZ.tmps[9]?=some (.pointer (some ⟨pb,0,none⟩)):=hr 9 (by decide);have k0:=aE hB Z.aQ.1;have k1:=aE hB Z.aQ.2.1;have k2:=aE hB Z.aQ.2.2;exact Rg.aG rfl (by go_simp)
   ·unfold Rg.be
    rw [if_neg (by decide),if_neg (by decide)];intro zZ w_ hB hr;have e1:zZ.tmps[1]?=some (.slice (some ⟨g,0,none⟩) N cap):=hr 1 (by decide);exact Rg.aG rfl (by go_simp)
   ·unfold Rg.be
    rw [if_neg (by decide),if_neg (by decide)];intro zZ w_ hB hr;have e12:zZ.tmps[12]?=some (.int .i64 ((k:Nat):Int)):=hr 12 (by decide);exact Rg.aG rfl (by go_simp)
   ·unfold Rg.be
    rw [if_neg (by decide),if_neg (by decide)];intro zZ w_ hB hr;have e63:=Rg.a_ (hr 63 (by decide));have e64:=Rg.a_ (hr 64 (by decide));exact Rg.aG rfl (by first | (go_simp;done) | (go_simp;omega))
   ·unfold Rg.be
    rw [if_neg (by decide),if_neg (by decide)];intro zZ w_ hB hr;have e65:=Rg.a_ (hr 65 (by decide));have k0:=aE hB d0;have k1:=aE hB d1;have k2:=aE hB d2;exact Rg.aG rfl (by first | (go_simp;done))
   ·unfold Rg.be
    rw [if_neg (by decide),if_neg (by decide)];intro zZ w_ hB hr;have e61:=Rg.a_ (hr 61 (by decide));have e62:=Rg.a_ (hr 62 (by decide));have e66:=Rg.a_ (hr 66 (by decide));have ef:=Rg.ef zZ;exact Rg.bU rfl (by go_simp) (PP.out _)
   ·unfold Rg.be
    rw [if_neg (by decide),if_neg (by decide)];intro zZ w_ hB hr;have e67:=Rg.a_ (hr 67 (by decide));exact Rg.aG rfl (by go_simp)
   ·unfold Rg.be
    rw [if_neg (by decide),if_neg (by decide)];intro zZ w_ hB hr;have e60:=Rg.a_ (hr 60 (by decide));exact Rg.aG rfl (by go_simp)
   ·unfold Rg.be
    rw [if_neg (by decide),if_neg (by decide)];intro zZ w_ hB hr;have e60:=Rg.a_ (hr 60 (by decide));exact Rg.aG rfl (by go_simp)
   ·unfold Rg.be
    rw [if_pos rfl];intro zZ w_;exact Rg.lw rfl (by first | (go_simp;done) | (go_simp;rfl))
   ·unfold Rg.be
    rw [if_neg (by decide),if_pos rfl];intro zZ w_ h_ hh hn hr;have e13:zZ.tmps[13]?=some (.pointer (some ⟨h_,0,none⟩)):=hr 13 (by decide);have e68:=Rg.a_ (hr 68 (by decide));have ⟨y0,y1,x0,x1,_⟩:=hn.box;refine ⟨rfl,?_⟩;unfold Oper.wp
    go_simp
    exact ⟨aH.set2 hn _ _,yL (yL (yM _ _) hh _) hh _⟩
   ·unfold Rg.be
    rw [if_neg (by decide),if_neg (by decide)];intro zZ w_ hB hr;have e69:=Rg.a_ (hr 69 (by decide));exact Rg.aG rfl (by go_simp)
   intro vals wz h_ hh hn yn hB hv;have BH:vals 12=.bool true:=hv 12 (by decide) (by decide) (by decide);simp only [Rg.ak,Rg.fill,Act.put,Nat.reduceAdd];clear hv;simp only [yn,BH];clear yn BH;have hM2:=yJ (hM.out.below hB);have hS:=yJ (show es w N h_ (q1,q2) wz from ⟨by omega,hn⟩);clear hn hB hM d0 d1 d2 PP C Z B
   go_upto_region 20 with fail
   have hkk4:((k:Nat):Int)≤4:=by omega
   refine Rg.wQ (fun n W=>da w N a b x1 x2 x3 pb (M.dF N (M.yH i k n) (M.fe a b l)) W∧es w N h_ (q1,q2) W) [13,15] [.slice (some ⟨w.heap.size+1,0,none⟩) N N,.int .i64 ((i:Nat):Int),.pointer (some ⟨w.heap.size+1,i,none⟩),.slice (some ⟨w.heap.size+1+1+i,0,none⟩) N N,.int .i64 ((k:Nat):Int),.slice (some ⟨w.heap.size+1,0,none⟩) N N,.int .i64 ((k:Nat):Int),.pointer (some ⟨w.heap.size+1,k,none⟩),.slice (some ⟨w.heap.size+1+1+k,0,none⟩) N N,.int .i64 ((i:Nat):Int),.agg #[.int .i64 q1,.int .i64 q2],.agg #[.int .i64 q1,.int .i64 q2],.pointer (some ⟨w.heap.size+1+1+i,k*2,none⟩),undef,.pointer (some ⟨w.heap.size+1+1+k,i*2,none⟩),undef] (by kernel_rfl) (by kernel_rfl) (by kernel_rfl) (by decide) (⟨hM2.out.below (yM _ wz).drew,hS.out.below (yM _ wz).drew⟩) ⟨?_,?_,?_,?_,?_,?_,?_,?_,?_,?_,?_,?_,?_,?_,?_,?_,trivial⟩ ?_
   ·unfold Rg.bp
    rw [if_neg (by decide)];intro zZ w_ n_ zg hJ hr;refine ⟨rfl,?_⟩;have e6:zZ.tmps[6]?=some (.slice (some ⟨w.heap.size+1,0,none⟩) N N):=hr 6 (by decide)
    go_simp
   ·unfold Rg.bp
    rw [if_neg (by decide)];intro zZ w_ n_ zg hJ hr;refine ⟨rfl,?_⟩;have e8:zZ.tmps[8]?=some (.int .i64 ((i:Nat):Int)):=hr 8 (by decide)
    go_simp
   ·unfold Rg.bp
    rw [if_neg (by decide)];intro zZ w_ n_ zg hJ hr;refine ⟨rfl,?_⟩;have e72:zZ.tmps[72]?=some (.slice (some ⟨w.heap.size+1,0,none⟩) N N):=hr 72 (by decide);have e73:zZ.tmps[73]?=some (.int .i64 ((i:Nat):Int)):=hr 73 (by decide)
    have Bg:((i:Nat):Int)<(N:Int):=by omega
    first | (go_simp;done) | (go_simp;omega)
   ·unfold Rg.bp
    rw [if_neg (by decide)];intro zZ w_ n_ zg hJ hr;refine ⟨rfl,?_⟩;have e74:zZ.tmps[74]?=some (.pointer (some ⟨w.heap.size+1,i,none⟩)):=hr 74 (by decide);have hr_:=eG.row hJ.1.1 (i:=i) (by omega)
    first | (go_simp;done)
   ·unfold Rg.bp
    rw [if_neg (by decide)];intro zZ w_ n_ zg hJ hr;refine ⟨rfl,?_⟩;have e12:zZ.tmps[12]?=some (.int .i64 ((k:Nat):Int)):=hr 12 (by decide)
    go_simp
   ·unfold Rg.bp
    rw [if_neg (by decide)];intro zZ w_ n_ zg hJ hr;refine ⟨rfl,?_⟩;have e6:zZ.tmps[6]?=some (.slice (some ⟨w.heap.size+1,0,none⟩) N N):=hr 6 (by decide)
    go_simp
   ·unfold Rg.bp
    rw [if_neg (by decide)];intro zZ w_ n_ zg hJ hr;refine ⟨rfl,?_⟩;have e12:zZ.tmps[12]?=some (.int .i64 ((k:Nat):Int)):=hr 12 (by decide)
    go_simp
   ·unfold Rg.bp
    rw [if_neg (by decide)];intro zZ w_ n_ zg hJ hr;refine ⟨rfl,?_⟩;have e77:zZ.tmps[77]?=some (.slice (some ⟨w.heap.size+1,0,none⟩) N N):=hr 77 (by decide);have e78:zZ.tmps[78]?=some (.int .i64 ((k:Nat):Int)):=hr 78 (by decide)
    have Bg:((k:Nat):Int)<(N:Int):=by omega
    first | (go_simp;done) | (go_simp;omega)
   ·unfold Rg.bp
    rw [if_neg (by decide)];intro zZ w_ n_ zg hJ hr;refine ⟨rfl,?_⟩;have Hy:zZ.tmps[79]?=some (.pointer (some ⟨w.heap.size+1,k,none⟩)):=hr 79 (by decide);have hr_:=eG.row hJ.1.1 (i:=k) (by omega)
    first | (go_simp;done)
   ·unfold Rg.bp
    rw [if_neg (by decide)];intro zZ w_ n_ zg hJ hr;refine ⟨rfl,?_⟩;have e8:zZ.tmps[8]?=some (.int .i64 ((i:Nat):Int)):=hr 8 (by decide)
    go_simp
   ·unfold Rg.bp
    rw [if_neg (by decide)];intro zZ w_ n_ zg hJ hr;refine ⟨rfl,?_⟩;have e13:zZ.tmps[13]?=some (.pointer (some ⟨h_,0,none⟩)):=hr 13 (by decide);have k0:=hJ.2.2.box.c0;have k1:=hJ.2.2.box.c1
    go_simp
   ·unfold Rg.bp
    rw [if_neg (by decide)];intro zZ w_ n_ zg hJ hr;refine ⟨rfl,?_⟩;have e13:zZ.tmps[13]?=some (.pointer (some ⟨h_,0,none⟩)):=hr 13 (by decide);have k0:=hJ.2.2.box.c0;have k1:=hJ.2.2.box.c1
    go_simp
   ·unfold Rg.bp
    rw [if_neg (by decide)];intro zZ w_ n_ zg hJ hr;refine ⟨rfl,?_⟩;have e75:zZ.tmps[75]?=some (.slice (some ⟨w.heap.size+1+1+i,0,none⟩) N N):=hr 75 (by decide);have e76:zZ.tmps[76]?=some (.int .i64 ((k:Nat):Int)):=hr 76 (by decide)
    have Bg:((k:Nat):Int)<(N:Int):=by omega
    first | (go_simp;done) | (go_simp;omega)
   ·unfold Rg.bp
    rw [if_pos (by decide)];intro zZ w_ hJ hr;have e82:zZ.tmps[82]?=some (.agg #[.int .i64 q1,.int .i64 q2]):=hr 82 (by decide);have e84:zZ.tmps[84]?=some (.pointer (some ⟨w.heap.size+1+1+i,k*2,none⟩)):=hr 84 (by decide);refine ⟨rfl,?_⟩;obtain ⟨CJ,FL⟩:=hJ;have CJ:da w N a b x1 x2 x3 pb (M.dF N (M.done i k) (M.fe a b l)) w_:=CJ;have ⟨y0,y1,FY,AP,xl_⟩:=eG.cells CJ.1 (i:=i) (j:=k) (M.dY _ _ (by omega)) (M.eF _ _ (by omega))
    have Bg:((k:Nat):Int)<(N:Int):=by omega
    have CH:=da.put CJ (i:=i) (j:=k) (q:=(q1,q2)) (rows':=M.dF N (M.half i k) (M.fe a b l)) (M.dY _ _ (by omega)) (by omega) (by rw [←hqe.out];exact M.vU _ (by omega) (by omega));have Dq:=es.put FL (i:=i) (j1:=k*2) (j2:=k*2+1) (u:=.int .i64 q1) (v:=.int .i64 q2) (by omega);clear CJ FL;unfold Oper.wp
    go_simp
    all_goals first | exact CH | exact ⟨CH,Dq⟩
   ·unfold Rg.bp
    rw [if_neg (by decide)];intro zZ w_ n_ zg hJ hr;refine ⟨rfl,?_⟩;have e80:zZ.tmps[80]?=some (.slice (some ⟨w.heap.size+1+1+k,0,none⟩) N N):=hr 80 (by decide);have L8:zZ.tmps[81]?=some (.int .i64 ((i:Nat):Int)):=hr 81 (by decide)
    have Bg:((i:Nat):Int)<(N:Int):=by omega
    first | (go_simp;done) | (go_simp;omega)
   ·unfold Rg.bp
    rw [if_pos (by decide)];intro zZ w_ hJ hr;have L9:zZ.tmps[83]?=some (.agg #[.int .i64 q1,.int .i64 q2]):=hr 83 (by decide);have L_:zZ.tmps[85]?=some (.pointer (some ⟨w.heap.size+1+1+k,i*2,none⟩)):=hr 85 (by decide);refine ⟨rfl,?_⟩;obtain ⟨CJ,FL⟩:=hJ;have CJ:da w N a b x1 x2 x3 pb (M.dF N (M.half i k) (M.fe a b l)) w_:=CJ;have ⟨y0,y1,FY,AP,xl_⟩:=eG.cells CJ.1 (i:=k) (j:=i) (M.dY _ _ (by omega)) (M.eF _ _ (by omega))
    have Bg:((i:Nat):Int)<(N:Int):=by omega
    have CH:=da.put CJ (i:=k) (j:=i) (q:=(q1,q2)) (rows':=M.dF N (M.done i (k+1)) (M.fe a b l)) (M.dY _ _ (by omega)) (by omega) (by rw [←hqe.out];exact M.vV _ (M.xA _ _ _ _ _) (by omega) (by omega));have Dq:=es.put FL (i:=k) (j1:=i*2) (j2:=i*2+1) (u:=.int .i64 q1) (v:=.int .i64 q2) (by omega);clear CJ FL;unfold Oper.wp
    go_simp
    all_goals first | exact CH | exact ⟨CH,Dq⟩
   intro vals wy hJ hv;simp only [Rg.ak,Rg.fill,Act.put,Nat.reduceAdd];clear hv;obtain ⟨CG,-⟩:=hJ;have CG:da w N a b x1 x2 x3 pb (M.dF N (M.done i (k+1)) (M.fe a b l)) wy:=CG;clear hM2 hS hqe;go_wp2
   go_roundw
   case rel=>exact ⟨k+1,by omega,by omega,by go_num,yJ (fun j h1 h2=>by
    rcases Nat.lt_or_ge j k with h3 | h3
    ·exact An.out j h1 h3
    obtain rfl:j=k:=by omega
    exact NK.out),yJ CG⟩
   case measure=>simp [intOf] <;> omega
  obtain rfl:N=k:=by omega
  have CG:=hM.out;have hd:=M.q9 (n:=N) (i:=i) (M.fe a b l);have hG3:=CG.1;rw [hd] at hG3;have hG3:=yJ hG3;clear hd
  have hal:∀ i',i'<i+1→∀ j,j<l.length→(M.ent a b l i' j).isSome=true:=fun i' h j hj=>by
   rcases Nat.lt_or_ge i' i with q | q
   ·exact hall.out i' q j hj
   obtain rfl:i'=i:=by omega
   rcases Nat.lt_or_ge j i' with q2 | q2
   ·rw [M.jL];exact hall.out j q2 i' (by have:=hN.out;omega)
   exact An.out j q2 (by have:=hN.out;omega)
  have hal:=yJ hal;have C3:=CG.2.1;have B3:=CG.2.2.2;clear CG hM;go_wp2
  go_roundw
  case rel=>exact ⟨i+1,by omega,by go_num,hal,hG3,C3,B3⟩
  case measure=>simp [intOf] <;> omega
 obtain rfl:N=i:=by omega
 have hyes:=yJ (M.qR (a:=a) (b:=b) (l:=l) (fun i' h=>hall.out i' (by have:=hN.out;omega)));have hrows:=yJ (M.rT hyes.out);have hG4:=hG.out.mat (base:=w.heap.size) (by omega) (by omega);have hG4:=yJ hG4;clear hG;go_wp2;go_ret2;exact ⟨_,by rw [hyes.out];rfl,by rw [hrows.out,hN.out];exact hG4.out,B⟩
theorem Rw.From.below {α:Type} {E:Rw.Enc α} {w w':World} {A:Option Addr} {ys:List α} (h:Rw.From E w A ys) (hb:Below w.heap.size w w'):Rw.From E w' A ys:=fun j u hu=>by
 obtain ⟨ad,e,hc⟩:=h j u hu;exact ⟨ad,e,aE hb hc⟩
theorem uz (n:Nat) (h1:1≤n) (h2:n≤4) (w:World) :
  Calls Tryz.prog 97 #[.slice none 0 0,.int .i64 (n:Int)] w fun e w'=>∃ v,e=.returned v∧Rw.Own EP w' w.heap.size v []∧Below w.heap.size w w':=by
 obtain ⟨i0,hi,hz0,hz1,hz2⟩:=info_parts tY;have hc:=Any8.slices_Grow_grow Tryz.growP i0 _ hi hz0 (by omega) none 0 0 n [] w (yN _) (by omega) (by rw [hz2];omega) (by omega) (by simp) (fun _=>rfl) (fun a h=>by cases h);refine Calls.mono hc ?_;rintro e w' ⟨rfl,rfl⟩;refine ⟨_,rfl,⟨rfl,Or.inr ⟨w.heap.size,_,_,rfl,yN _,heap_alloc_new w.drew _,Nat.zero_le _,grownCap_le_maxLen w _ 0 _ (by unfold maxLen;omega),?_,rfl⟩⟩,((yM _ w).drew).alloc (yN _) _⟩;have hG:=grownCap_ge w (0+n) 0 (Tryz.growP_ren.t 25);have hk:EP.k=2:=rfl;simp only [Array.size_append,size_zeroCells,hk];simp only [List.size_toArray,List.length_nil,Value.cells]
 show 0+(0+n - 0)*2+(_ - (0+n))*2=_*2
 omega
theorem sv (h n1 c1 n2 c2:Nat) (a1 a2:Option Addr) (r1 r2:List (Int × Int)) (w:World) (k0:w.cell? ⟨h,0,none⟩=some (.slice a1 n1 c1)) (k1:w.cell? ⟨h,1,none⟩=some (.slice a2 n2 c2))
  (hn1:r1.length=n1) (hn2:r2.length=n2) (F1:Rw.From EP w a1 r1) (F2:Rw.From EP w a2 r2) (h1:1≤n1+n2) (h2:n1+n2≤4) :
  Calls Tryz.prog 79 #[.slice (some ⟨h,0,none⟩) 2 2] w fun e w'=>∃ v,e=.returned v∧Rw.Own EP w' w.heap.size v (r1 ++ r2)∧Below w.heap.size w w':=by
 have PG:=yJ fun W=>uz (n1+n2) h1 h2 W
 have F1:=yJ F1;have F2:=yJ F2;have hn1:=yJ hn1;have hn2:=yJ hn2
 have i1:(n1:Int)≤4:=by omega
 have i2:(n2:Int)≤4:=by omega
 go_enter Tryz.func79,Tryz.ntmps79
 go_wp2
 go_loopw [3,11] (fun vs vk wr=>w=wr∧((vk=.int .i64 0∧vs=.int .i64 0)∨(vk=.int .i64 1∧vs=.int .i64 (n1:Int))∨(vk=.int .i64 2∧vs=.int .i64 ((n1:Int)+n2)))) (fun _ vk _=>2 - (intOf vk).toNat)
 case atStart=>exact ⟨rfl,Or.inl ⟨rfl,rfl⟩⟩
 case round=>
 obtain ⟨rfl,hrel⟩:=hrel
 rcases hrel with ⟨rfl,rfl⟩ | ⟨rfl,rfl⟩ | ⟨rfl,rfl⟩
 ·go_wp2
  go_roundw
  case rel=>exact ⟨trivial,Or.inr (Or.inl ⟨rfl,by go_num⟩)⟩
  case measure=>simp [intOf]
 ·go_wp2
  go_roundw
  case rel=>exact ⟨trivial,Or.inr (Or.inr ⟨rfl,by go_num⟩)⟩
  case measure=>simp [intOf]
 replace PG:=yJ (fun W x (hx:x=((n1:Int)+n2))=>(by subst hx;exact PG.out W:Calls Tryz.prog 97 #[.slice none 0 0,.int .i64 x] W fun e w'=>∃ v,e=.returned v∧Rw.Own EP w' W.heap.size v []∧Below W.heap.size W w'))
 go_wp2_with (go_at_call 97;refine (PG.out _ _ (by omega)).mono ?_;rintro e w4 ⟨v4,rfl,yk,hb4⟩)
 go_loopw [6,27] (fun vo vk wq=>Below w.heap.size w wq∧((vk=.int .i64 0∧Hid (Rw.Own EP wq w.heap.size vo []))∨(vk=.int .i64 1∧Hid (Rw.Own EP wq w.heap.size vo r1))∨(vk=.int .i64 2∧Hid (Rw.Own EP wq w.heap.size vo (r1 ++ r2))))) (fun _ vk _=>2 - (intOf vk).toNat)
 case atStart=>exact ⟨hb4,Or.inl ⟨rfl,yJ yk⟩⟩
 case round=>
 clear hb4 yk;obtain ⟨B,hrel⟩:=hrel;have y0:=aE B k0;have y1:=aE B k1
 rcases hrel with ⟨rfl,ho⟩ | ⟨rfl,ho⟩ | ⟨rfl,ho⟩
 ·go_wp2_with (at_builtin;refine Rw.push wF (W:=w) w.heap.size r1 [] _ a1 n1 c1 hn1.out rfl (.tmp 31) (.tmp 32) rfl rfl rfl (F1.out.below B) ho.out B B.size (by have:=hn1.out;simp only [List.length_nil];omega) ?_;intro v6 w6 hown6 hb6)
  go_roundw
  case rel=>exact ⟨hb6,Or.inr (Or.inl ⟨rfl,yJ hown6⟩)⟩
  case measure=>simp [intOf]
 ·go_wp2_with (at_builtin;refine Rw.push wF (W:=w) w.heap.size r2 r1 _ a2 n2 c2 hn2.out rfl (.tmp 31) (.tmp 32) rfl rfl rfl (F2.out.below B) ho.out B B.size (by have:=hn1.out;have:=hn2.out;omega) ?_;intro v6 w6 hown6 hb6)
  go_roundw
  case rel=>exact ⟨hb6,Or.inr (Or.inr ⟨rfl,yJ hown6⟩)⟩
  case measure=>simp [intOf]
 go_wp2;go_ret;exact ⟨_,rfl,ho.out,B⟩
theorem dV {W:World} {base g i k n:Nat} {t T:TypeId} {v:Value} {vs:List Value} {ys:Array Value} (h:W.ownsRow base t k v n vs) (hv:aH W g T ys) (hT:T≠t) (x:Value):(W.setCell ⟨g,i,none⟩ x).ownsRow base t k v n vs:=by
 have hap:v.ownBlock≠some g:=by
  intro e
  rcases h.2 with ⟨rfl,-⟩ | ⟨g1,c1,DE,rfl,-,A9,-⟩
  ·cases e
  simp only [Value.ownBlock,Option.some.injEq] at e;subst e;unfold aH at hv;rw [A9] at hv
  injection hv with hv
  injection hv with _ h2
  exact hT h2.symm
 refine World.ownsRow.kept (row:=some g) h ⟨rfl,rfl,rfl,by simp [go_sem],fun k hk hne=>?_⟩ (Or.inr hap);rw [World.setCell]
 show (W.heap.modify g _)[k]?=_
 rw [Array.getElem?_modify,if_neg (fun e=>hne (by rw [e]))]
theorem ky {w W:World} (ty:TypeId) (base:Nat) (u:Value) (r:List (Int × Int)) (vs:List Value) (rows:List (List (Int × Int))) (v:Value)
  (hown:bX w base v vs rows) (hu:Rw.Own EP w base u r) (hnew:∀ g,u.ownBlock=some g→∀ z ∈ vs,z.ownBlock≠some g)
  (hW:Below base W w) (hB:base≤w.heap.size) (hl:rows.length≤1000000000) :
  ∃ v' w',(Builtin.append_ #[89,89] ty #[v,.slice (some ⟨w.heap.size,0,none⟩) 1 1]).run Tryz.prog (w.alloc (.cells #[u] 110))=.ok v' w'∧bX w' base v' (vs ++ [u]) (rows ++ [r])∧Below base W w':=by
 obtain ⟨i0,hi,hz0,hz1,hz2⟩:=info_parts tZ;obtain ⟨h1,h2,h3,h4⟩:=hown
 obtain ⟨v',w',q1,k1,k2,-,-⟩:=run_append_own_at (P:=Tryz.prog) (w.alloc (.cells #[u] 110)) base 89 ty 110 i0 (.slice none 0 0) 1 24 Tryz.underlying89 hi hz0 hz1 hz2 rfl (by decide) v rows.length vs (h1.alloc _) ⟨w.heap.size,0,none⟩ 1 1 [u] rfl (fun j z hz=>by
  have hadd:(⟨w.heap.size,0,none⟩:Addr).add j=⟨w.heap.size,j,none⟩:=by unfold Addr.add;split <;> simp_all
  rw [hadd,World.cell?_alloc_at _ _ _ _ rfl]
  simpa using hz) (fun z hz=>by simp only [List.mem_singleton] at hz;subst hz;exact Rw.mV hu) (by unfold maxLen;omega) (by omega) (by rw [yK];omega)
 refine ⟨v',w',q1,⟨by rw [List.length_append];exact k1,by rw [List.length_append,List.length_append,h2];rfl,?_,?_⟩,((hW.alloc hB _).grown k2 (by rw [yK];omega) fun k hk=>(h1.lt k hk).1)⟩
 ·have hal:∀ {z:Value} {q:List (Int × Int)},Rw.Own EP w base z q→Rw.Own EP w' base z q:=by
   intro z q hz;have hz':Rw.Own EP (w.alloc (.cells #[u] 110)) base z q:=World.ownsRow.alloc hz _
   refine hz'.kept k2 fun g hg=>?_
   exact gK (t1:=68) (t2:=110) hz' (World.ownsRow.alloc h1 _) (Ne.symm neP) g hg
  intro i z q hz hq
  by_cases hlt:i<vs.length
  ·rw [List.getElem?_append_left hlt] at hz
   rw [List.getElem?_append_left (by omega)] at hq;exact hal (h3 i z q hz hq)
  rw [List.getElem?_append_right (by omega)] at hz;rw [List.getElem?_append_right (by omega),←h2] at hq
  have hi0:i - vs.length=0:=by
   rcases Nat.eq_zero_or_pos (i - vs.length) with e | e
   ·exact e
   rw [List.getElem?_eq_none (by simp;omega)] at hz;cases hz
  rw [hi0] at hz hq;simp only [List.getElem?_cons_zero,Option.some.injEq] at hz hq;subst hz hq;exact hal hu
 rw [List.pairwise_append];refine ⟨h4,by simp,fun z hz z' hz' g hg hg'=>?_⟩;simp only [List.mem_singleton] at hz';subst hz';exact hnew g hg' z hz hg
theorem bX.di {W:World} {base g i:Nat} {T:TypeId} {v:Value} {vs:List Value} {rows:List (List (Int × Int))} {ys:Array Value} (h:bX W base v vs rows) (hv:aH W g T ys) (hT:T≠68) (Dr:T≠110) (x:Value):bX (W.setCell ⟨g,i,none⟩ x) base v vs rows:=by
 obtain ⟨h1,h2,h3,h4⟩:=h;exact ⟨dV h1 hv Dr x,h2,fun i u r hu hr=>dV (h3 i u r hu hr) hv hT x,h4⟩
theorem dz.di {W:World} {base g i:Nat} {T:TypeId} {v:Value} {rows:List (List (Int × Int))} {ys:Array Value} (h:dz W base v rows) (hv:aH W g T ys) (hT:T≠68) (Dr:T≠110) (x:Value):dz (W.setCell ⟨g,i,none⟩ x) base v rows:=h.elim fun vs k=>⟨vs,k.di hv hT Dr x⟩
theorem bX.fresh {w w':World} {base b2:Nat} {v u:Value} {vs:List Value} {rows:List (List (Int × Int))} {r:List (Int × Int)} (h:bX w base v vs rows) (hu:Rw.Own EP w' b2 u r) (hb:w.heap.size≤b2):∀ g,u.ownBlock=some g→∀ z ∈ vs,z.ownBlock≠some g:=fun g hg z hz e=>by
 have h1:=(h.lt z hz g e).2;have h2:=(hu.lt g hg).1;omega
theorem Rw.From.cut {α:Type} {E:Rw.Enc α} {w:World} {g:Nat} {r:List α} (h:Rw.From E w (some ⟨g,0,none⟩) r) (c:Nat):Rw.From E w (some ⟨g,0,none⟩) (r.take c):=fun j u hu=>by
 rw [Rw.iS,List.getElem?_take] at hu
 split at hu
 ·exact h j u hu
 cases hu
theorem Rw.From.rest {α:Type} {E:Rw.Enc α} {w:World} {g:Nat} {r:List α} (h:Rw.From E w (some ⟨g,0,none⟩) r) (c:Nat):Rw.From E w (some ⟨g,c*E.k,none⟩) (r.drop c):=fun j u hu=>by
 rw [Rw.rD,List.getElem?_drop] at hu;obtain ⟨ad,e,hc⟩:=h _ u hu;refine ⟨_,rfl,?_⟩;have:=Option.some.inj e;subst this
 have H7:∀ b i j:Nat,(⟨b,i,none⟩:Addr).add j=⟨b,i+j,none⟩:=fun b i j=>by unfold Addr.add;split <;> simp_all
 rw [H7] at hc ⊢;rw [Nat.zero_add] at hc;exact hc
theorem Rw.From.qZ {α:Type} {E:Rw.Enc α} {w:World} {g:Nat} {r:List α} (h:Rw.From E w (some ⟨g,0,none⟩) r) (c cap:Nat) (hl:r.length≤cap):Rw.From E w (if cap=c then some ⟨g,0,none⟩ else some ⟨g,c*E.k,none⟩) (r.drop c):=by
 by_cases hc:cap=c
 ·rw [if_pos hc,List.drop_eq_nil_of_le (by omega)]
  exact Rw.From.nil E w _
 rw [if_neg hc];exact h.rest c
theorem kx {w W:World} (ty:TypeId) (base:Nat) (u:Value) (r:List (Int × Int × Int × Int)) (vs:List Value) (rows:List (List (Int × Int × Int × Int))) (v:Value)
  (hown:bs w base v vs rows) (hu:Rw.Own EN w base u r) (hnew:∀ g,u.ownBlock=some g→∀ z ∈ vs,z.ownBlock≠some g)
  (hW:Below base W w) (hB:base≤w.heap.size) (hl:rows.length≤1000000000) :
  ∃ v' w',(Builtin.append_ #[83,83] ty #[v,.slice (some ⟨w.heap.size,0,none⟩) 1 1]).run Tryz.prog (w.alloc (.cells #[u] 100))=.ok v' w'∧bs w' base v' (vs ++ [u]) (rows ++ [r])∧Below base W w':=by
 obtain ⟨i0,hi,hz0,hz1,hz2⟩:=info_parts tX;obtain ⟨h1,h2,h3,h4⟩:=hown
 obtain ⟨v',w',q1,k1,k2,-,-⟩:=run_append_own_at (P:=Tryz.prog) (w.alloc (.cells #[u] 100)) base 83 ty 100 i0 (.slice none 0 0) 1 24 Tryz.underlying83 hi hz0 hz1 hz2 rfl (by decide) v rows.length vs (h1.alloc _) ⟨w.heap.size,0,none⟩ 1 1 [u] rfl (fun j z hz=>by
  have hadd:(⟨w.heap.size,0,none⟩:Addr).add j=⟨w.heap.size,j,none⟩:=by unfold Addr.add;split <;> simp_all
  rw [hadd,World.cell?_alloc_at _ _ _ _ rfl]
  simpa using hz) (fun z hz=>by simp only [List.mem_singleton] at hz;subst hz;exact Rw.mV hu) (by unfold maxLen;omega) (by omega) (by rw [yK];omega)
 refine ⟨v',w',q1,⟨by rw [List.length_append];exact k1,by rw [List.length_append,List.length_append,h2];rfl,?_,?_⟩,((hW.alloc hB _).grown k2 (by rw [yK];omega) fun k hk=>(h1.lt k hk).1)⟩
 ·have hal:∀ {z:Value} {q:List (Int × Int × Int × Int)},Rw.Own EN w base z q→Rw.Own EN w' base z q:=by
   intro z q hz;have hz':Rw.Own EN (w.alloc (.cells #[u] 100)) base z q:=World.ownsRow.alloc hz _
   refine hz'.kept k2 fun g hg=>?_
   exact gK (t1:=64) (t2:=100) hz' (World.ownsRow.alloc h1 _) (Ne.symm neN) g hg
  intro i z q hz hq
  by_cases hlt:i<vs.length
  ·rw [List.getElem?_append_left hlt] at hz
   rw [List.getElem?_append_left (by omega)] at hq;exact hal (h3 i z q hz hq)
  rw [List.getElem?_append_right (by omega)] at hz;rw [List.getElem?_append_right (by omega),←h2] at hq
  have hi0:i - vs.length=0:=by
   rcases Nat.eq_zero_or_pos (i - vs.length) with e | e
   ·exact e
   rw [List.getElem?_eq_none (by simp;omega)] at hz;cases hz
  rw [hi0] at hz hq;simp only [List.getElem?_cons_zero,Option.some.injEq] at hz hq;subst hz hq;exact hal hu
 rw [List.pairwise_append];refine ⟨h4,by simp,fun z hz z' hz' g hg hg'=>?_⟩;simp only [List.mem_singleton] at hz';subst hz';exact hnew g hg' z hz hg
theorem bs.di {W:World} {base g i:Nat} {T:TypeId} {v:Value} {vs:List Value} {rows:List (List (Int × Int × Int × Int))} {ys:Array Value} (h:bs W base v vs rows) (hv:aH W g T ys) (hT:T≠64) (Dr:T≠100) (x:Value):bs (W.setCell ⟨g,i,none⟩ x) base v vs rows:=by
 obtain ⟨h1,h2,h3,h4⟩:=h;exact ⟨dV h1 hv Dr x,h2,fun i u r hu hr=>dV (h3 i u r hu hr) hv hT x,h4⟩
theorem dZ.di {W:World} {base g i:Nat} {T:TypeId} {v:Value} {rows:List (List (Int × Int × Int × Int))} {ys:Array Value} (h:dZ W base v rows) (hv:aH W g T ys) (hT:T≠64) (Dr:T≠100) (x:Value):dZ (W.setCell ⟨g,i,none⟩ x) base v rows:=h.elim fun vs k=>⟨vs,k.di hv hT Dr x⟩
theorem bs.fresh {w w':World} {base b2:Nat} {v u:Value} {vs:List Value} {rows:List (List (Int × Int × Int × Int))} {r:List (Int × Int × Int × Int)} (h:bs w base v vs rows) (hu:Rw.Own EN w' b2 u r) (hb:w.heap.size≤b2):∀ g,u.ownBlock=some g→∀ z ∈ vs,z.ownBlock≠some g:=fun g hg z hz e=>by
 have h1:=(h.lt z hz g e).2;have h2:=(hu.lt g hg).1;omega
end
section
open Go Go.RowKit
namespace Rg
variable {P:Program} {Q:Exit→Act→World→Prop}
section
variable (P) (Q) (ops:Array Oper) (a0:Act) (T:List Value) (J:Nat→(Nat→Value)→World→Prop) (C:List Nat)
def jf (o:Oper) (a:Act) (vals:Nat→Value) (t:Nat):Prop:=
 match o.after.toList.find? (fun e=>Region.binds .any e && ((ops[e.on]?).bind (·.dst)) == some t) with
 | some e=>if e.on ∈ C then a.tmps[t]?=some (vals e.on) else a.tmps[t]?=some (T.getD e.on undef)
 | none=>a.tmps[t]?=a0.tmps[t]?
def aj (k:Nat) (o:Oper):Prop:=
 if k ∈ C then ∀ (a:Act) (w:World) (vals:Nat→Value),J (C.idxOf k) vals w→(∀ t ∈ o.looksAt ops,jf ops a0 T C o a vals t)→Region.wanted o (yielded ops a.tmps)=true∧o.wp P a w (fun a' w'=>∃ v,a'=a.put o.dst v∧J (C.idxOf k+1) (br vals k v) w') Q
 else ∀ (a:Act) (w:World) (n:Nat) (vals:Nat→Value),(n≤C.length∧(∀ c,c ∈ C→fw ops k c=true→n≤C.idxOf c)∧∀ c,c ∈ C→fw ops c k=true→C.idxOf c<n)→J n vals w→(∀ t ∈ o.looksAt ops,jf ops a0 T C o a vals t)→Region.wanted o (yielded ops a.tmps)=true∧(execOp a.eval o).run P w=.ok (.value (T.getD k undef)) w
def sH:List Oper→Nat→Prop
 | [],_=>True
 | o :: os,k=>aj P Q ops a0 T J C k o∧sH os (k+1)
def xV (l:Nat→Bool) (vals:Nat→Value) (w:World):Prop:=
 J (cnt l C) vals w∧∀ i,i ∉ C→l i=true→vals i=T.getD i undef
end
theorem jy {l:Nat→Bool} {c:Nat} (hl:l c=false):∀ C:List Nat,c ∈ C→cnt l C≤C.idxOf c
 | [],h=>by cases h
 | d :: cs,h=>by
  by_cases hd:d=c
  ·subst hd
   unfold cnt;rw [hl];simp
  have hm:c ∈ cs:=by
   rcases List.mem_cons.1 h with e | e
   ·exact absurd e.symm hd
   exact e
  have:=jy hl cs hm
  have e2:(d == c)=false:=by rw [beq_eq_false_iff_ne];exact hd
  rw [List.idxOf_cons,e2];unfold cnt
  split
  ·simp only [cond_false];omega
  omega
theorem sp {ops:Array Oper} {l:Nat→Bool} {c:Nat} (hc:jY .any ops l) (hl:l c=true):∀ C:List Nat,dR ops C=true→c ∈ C→C.idxOf c<cnt l C
 | [],_,h=>by cases h
 | [d],_,h=>by
  rcases List.mem_cons.1 h with rfl | h
  ·unfold cnt;rw [hl];simp [cnt]
  cases h
 | d :: e :: cs,ho,h=>by
  unfold dR at ho;rw [Bool.and_eq_true,Bool.and_eq_true,decide_eq_true_eq] at ho;obtain ⟨⟨he,-⟩,ho⟩:=ho
  by_cases hd:d=c
  ·subst hd
   unfold cnt;rw [hl];simp
  have hm:c ∈ e :: cs:=by
   rcases List.mem_cons.1 h with q | q
   ·exact absurd q.symm hd
   exact q
  have ih:=sp hc hl (e :: cs) ho hm
  have hle:l e=true:=by
   cases q:l e
   ·exfalso
    have z:cnt l (e :: cs)=0:=by unfold cnt;rw [q];rfl
    omega
   rfl
  have hld:=cQ hc he hle
  have e2:(d == c)=false:=by rw [beq_eq_false_iff_ne];exact hd
  rw [List.idxOf_cons,e2]
  have:cnt l (d :: e :: cs)=cnt l (e :: cs)+1:=by rw [cnt];rw [if_pos hld]
  rw [this];simp only [cond_false];omega
theorem uJ {ops:Array Oper} {a0:Act} {T:List Value} {J:Nat→(Nat→Value)→World→Prop} {C:List Nat} (hC:dR ops C=true) (hJ:∀ n v v' w,(∀ i ∈ C,v i=v' i)→J n v w→J n v' w) :
  ∀ (os:List Oper) (k:Nat),(∀ i,os[i]?=ops[k+i]?)→sH P Q ops a0 T J C os k→fo P Q .any ops (xV T J C) a0 os k
 | [],_,_,_=>trivial
 | o :: os,k,hos,h=>by
  refine ⟨fun a w l vals hI hl hc zl hr=>?_,uJ hC hJ os (k+1) (fun i=>by rw [show k+1+i=k+(i+1) by omega,←hos (i+1)];rfl) h.2⟩;obtain ⟨hB,hv⟩:=hI;have ho:ops[k]?=some o:=(hos 0).symm
  have hQ:∀ t ∈ o.looksAt ops,jf ops a0 T C o a vals t:=fun t ht=>by
   have:=hr t ht;unfold rd at this;unfold jf
   split
   ·rename_i e he
    rw [he] at this;have h2:=List.find?_some he;rw [Bool.and_eq_true] at h2;replace this:a.tmps[t]?=some (vals e.on):=this
    split
    ·exact this
    rename_i n1
    rw [this,hv _ n1 (zl e (Array.mem_toList_iff.1 (List.mem_of_find?_eq_some he)) h2.1)]
   rename_i he
   rw [he] at this;exact this
  have hko:∀ j,j≠k→upd l k j=l j:=fun j hj=>if_neg hj
  have h1:=h.1;unfold aj at h1;unfold jj
  have rest:∀ v,(k ∉ C→v=T.getD k undef)→∀ i,i ∉ C→upd l k i=true→br vals k v i=T.getD i undef:=fun v hvk i n1 hi=>by
   by_cases hik:i=k
   ·subst hik
    have:br vals i v i=v:=if_pos rfl;rw [this];exact hvk n1
   rw [hko i hik] at hi;have:br vals k v i=vals i:=if_neg hik;rw [this];exact hv i n1 hi
  by_cases e3:k ∈ C
  ·rw [if_pos e3] at h1
   obtain ⟨q1,q2⟩:=gv hc hl (fun c hcd=>eN ho zl hcd) C hC e3;rw [q1] at hB;obtain ⟨hw,hwp⟩:=h1 a w vals hB hQ;rw [if_pos hw];refine Oper.wp_mono ?_ hwp;rintro a' w' ⟨v,e,h2⟩;exact ⟨v,e,by rw [q2];exact h2,rest v (fun h=>absurd e3 h)⟩
  rw [if_neg e3] at h1
  have hup:∀ c,c ∈ C→fw ops k c=true→cnt l C≤C.idxOf c:=fun c hcm he=>by
   have hlc:l c=false:=by
    cases q:l c
    ·rfl
    rw [cQ hc he q] at hl;cases hl
   exact jy hlc C hcm
  obtain ⟨hw,hwp⟩:=h1 a w _ vals ⟨pG C,hup,fun c hcm he=>sp hc (eN ho zl he) C hC hcm⟩ hB hQ;rw [if_pos hw];unfold Oper.wp;rw [hwp];refine ⟨_,rfl,?_,rest _ (fun _=>rfl)⟩;rw [fP C e3];refine hJ _ _ _ _ (fun i hi=>?_) hB
  have:i≠k:=fun e=>e3 (by rw [←e];exact hi)
  exact (if_neg this).symm
theorem ou {id:Nat} {ops:Array Oper} {a0:Act} {w:World} (J:Nat→(Nat→Value)→World→Prop) (C:List Nat) (T:List Value)
  (hm:P.follows .mixedOrders=true) (hok:dw .any ops a0.tmps.size=true) (hC:dR ops C=true) (hcl:∀ c ∈ C,c<ops.size) (hJ:∀ n v v' w,(∀ i ∈ C,v i=v' i)→J n v w→J n v' w)
  (h0:∀ vals,J 0 vals { w with drawn:=w.drawn+1 })
  (hR:sH P Q ops a0 T J C ops.toList 0)
  (hF:∀ (vals:Nat→Value) (w':World),J C.length vals w'→(∀ i,i<ops.size→i ∉ C→vals i=T.getD i undef)→Q .normal (fill (fun _=>true) vals ops.toList 0 a0) w'):(Code.region id ops true).wp P Q a0 w:=by
 have c0:∀ C:List Nat,cnt (fun _=>false) C=0:=fun C=>by cases C <;> rfl
 have cl:∀ (l:Nat→Bool) (C:List Nat),(∀ c ∈ C,l c=true)→cnt l C=C.length:=fun l C=>by
  induction C with
  | nil=>intro _;rfl
  | cons c cs ih=>
  intro h;unfold cnt;rw [if_pos (h c (List.mem_cons_self ..)),ih (fun x hx=>h x (List.mem_cons_of_mem _ hx))];rfl
 refine iE (xV T J C) hm hok (fun vals=>⟨?_,(fun _ _ h=>absurd h (by simp))⟩) (uJ hC hJ ops.toList 0 (fun i=>by rw [Nat.zero_add];exact Array.getElem?_toList) hR) ?_
 ·rw [c0]
  exact h0 vals
 intro l vals w' hl hI;obtain ⟨h1,h2⟩:=hI;rw [cl l C (fun c hc=>hl c (hcl c hc))] at h1;exact hF vals w' h1 (fun i hi n1=>h2 i n1 (hl i hi))
theorem ep {o:Oper} {a:Act} {w w2:World} {x:Value} {K:Value→World→Prop} (h:(execOp a.eval o).run P w=.ok (.value x) w2) (hK:K x w2):o.wp P a w (fun a' w'=>∃ v,a'=a.put o.dst v∧K v w') Q:=by
 unfold Oper.wp;rw [h];exact ⟨x,rfl,hK⟩
theorem kL {o:Oper} {a:Act} {w:World} {ob:Obj} {x:Value} {K:Value→World→Prop} (h:(execOp a.eval o).run P w=.ok (.value x) (w.alloc ob)) (hK:K x (w.alloc ob)):o.wp P a w (fun a' w'=>∃ v,a'=a.put o.dst v∧K v w') Q:=ep h hK
theorem eh {o:Oper} {a:Act} {w:World} {f:FuncId} {args:Array Value} {K:Value→World→Prop} (h:(execOp a.eval o).run P w=.ok (.enter f args) w) (hc:Calls P f args w fun e w'=>∃ v,e=.returned v∧K v w'):o.wp P a w (fun a' w'=>∃ v,a'=a.put o.dst v∧K v w') Q:=by
 unfold Oper.wp;rw [h];refine Calls.mono hc ?_;rintro e w' ⟨v,rfl,h1⟩;exact ⟨v,rfl,h1⟩
theorem eW {o:Oper} {a:Act} {w w2:World} {s x:Operand} {ts:TypeId} {v u v2:Value} (ho:o.op=.call { callee:=.builtin .append,args:=#[s,x],argTypes:=#[ts,ts] }) (hs:a.eval s=v) (hx:a.eval x=u) (h:(Builtin.append_ #[ts,ts] o.type #[v,u]).run P w=.ok v2 w2):(execOp a.eval o).run P w=.ok (.value v2) w2:=by
 unfold execOp;simp only [ho,resolve,invoke,builtin,Sem.run_bind,Sem.run_pure,Result.andThen_ok,List.map_toArray,List.map_cons,List.map_nil,hs,hx,h]
theorem nK (w:World) (xs:Array Value) (T:TypeId) (i:Nat) (u:Value) (h:xs[i]?=some u):(w.alloc (.cells xs T)).cell? ⟨w.heap.size,i,none⟩=some u:=by
 rw [World.cell?_alloc_at _ _ _ _ rfl];exact h
end Rg
end
section
open Go.RowKit
namespace M
def fi (ok:Bool) (n:Nat) (m:zQ) (c:Nat):Sp:=if c=0 then some (0,0) else gd ok (dj n m c)
def fg (ok:Bool) (n:Nat) (m:zQ):Sp:=if n=1 then ch 1 m else gd ok (ch n m)
theorem vf {ok:Bool} {n:Nat} {m:zQ} {c:Nat}:AU (fi ok n m c):=by
 unfold fi
 split
 ·intro p hp
  have:(0,0)=p:=Option.some.inj hp;subst this
  decide
 exact ic (mS _)
theorem qf {ok:Bool} {n:Nat} {m:zQ} {c:Nat} (h:(ok && (dj n m c).isSome)=true):fi ok n m c=dj n m c:=by
 rw [Bool.and_eq_true] at h;unfold fi
 split
 ·rename_i hc;subst hc;rfl
 rw [h.1];rfl
theorem qC {ok:Bool} {n:Nat} {m:zQ} (h:(ok && (ch n m).isSome)=true):fg ok n m=ch n m:=by
 rw [Bool.and_eq_true] at h;unfold fg
 split
 ·rename_i hc;subst hc;rfl
 rw [h.1];rfl
theorem ur {ok:Bool} {n:Nat} {m:zQ} (h:Gk m):AU (fg ok n m):=by
 unfold fg
 split
 ·exact jT h 1
 exact ic (jT h _)
theorem q8 {ok fc f1:Bool} {n c:Nat} {m:zQ} {q:Int × Int} {u1 u2:Sp} (hfc:fc=(ok && (dj n m c).isSome)) (hf1:f1=(fc && (ch (n+1) (cM m c)).isSome)) (hu1:u1=fg fc (n+1) (cM m c)) (hq:(m.headD [])[c]?=some q) (hu2:u2=gd f1 (fI (some q) u1)) :
  gd u2.isSome (dy (fi ok n m c) u2 c)=fi ok n m (c+1)∧(gd u2.isSome (dy (fi ok n m c) u2 c)).isSome=(ok && (dj n m (c+1)).isSome):=by
 have e:fi ok n m (c+1)=gd ok (dj n m (c+1)):=if_neg (by omega)
 have key:gd u2.isSome (dy (fi ok n m c) u2 c)=gd ok (dj n m (c+1)):=by
  rw [gM,hq]
  cases ok with
  | false=>
   have:f1=false:=by rw [hf1,hfc];rfl
   rw [hu2,this];rfl
  | true=>
  cases hS:dj n m c with
  | none=>
   have:f1=false:=by rw [hf1,hfc,hS];rfl
   rw [hu2,this,kY];rfl
  | some s=>
  cases hD:ch (n+1) (cM m c) with
  | none=>
   have:f1=false:=by rw [hf1,hD,Bool.and_comm];rfl
   have e2:fI (some q) none=none:=rfl;rw [hu2,this,e2,el];rfl
  | some d=>
  have h1:fc=true:=by rw [hfc,hS];rfl
  have h2:f1=true:=by rw [hf1,h1,hD];rfl
  have h3:u1=some d:=by rw [hu1,qC (by rw [h1,hD];rfl),hD]
  have h4:fi true n m c=some s:=by rw [qf (by rw [hS];rfl),hS]
  rw [h4,hu2,h2,h3]
  show gd (fI (some q) (some d)).isSome (dy (some s) (fI (some q) (some d)) c)=dy (some s) (fI (some q) (some d)) c
  cases fI (some q) (some d) with
  | none=>rw [el];rfl
  | some u=>rfl
 exact ⟨key.trans e.symm,by rw [key];cases ok <;> rfl⟩
theorem rq {ok:Bool} {n:Nat} {m:zQ} {c:Nat} (h:(ok && (dj n m c).isSome)=true):(fi ok n m c).isSome=true:=by
 rw [qf h];rw [Bool.and_eq_true] at h;exact h.2
theorem qz {ok:Bool} {n:Nat} {m:zQ} (h:(ok && (ch n m).isSome)=true):(fg ok n m).isSome=true:=by
 rw [qC h];rw [Bool.and_eq_true] at h;exact h.2
theorem uY {ok:Bool} {n:Nat} {m:zQ} (hm:square (n+2) m):fi ok n m (n+2)=fg ok (n+2) m∧(ok && (dj n m (n+2)).isSome)=(ok && (ch (n+2) m).isSome):=by
 have hl:(m.headD []).length=n+2:=by
  cases m with
  | nil=>have:=hm.1;simp only [List.length_nil] at this;omega
  | cons r m=>exact hm.2 r (List.mem_cons_self ..)
 have e:ch (n+2) m=dj n m (n+2):=by rw [jK,hl]
 unfold fi fg;rw [if_neg (by omega),if_neg (by omega),e];exact ⟨rfl,rfl⟩
theorem rP {m:zQ} {c i:Nat} {r:List (Int × Int)} (h:m[i+1]?=some r):(cM m c)[i]?=some (r.take c ++ r.drop (c+1)):=by
 unfold cM;rw [List.getElem?_map,List.getElem?_tail,h];rfl
theorem pR {m:zQ} {c n:Nat} (h:m.length=n+1):(cM m c).length=n:=by
 unfold cM;rw [List.length_map,List.length_tail,h];rfl
theorem iq {α:Type} {l:List α} {i:Nat} {x:α} (h:l[i]?=some x):l.take (i+1)=l.take i ++ [x]:=by
 rw [List.take_add_one,h];rfl
end M
theorem bX.rowIs {w:World} {base:Nat} {v:Value} {vs:List Value} {rows:List (List (Int × Int))} (h:bX w base v vs rows) {i:Nat} {r:List (Int × Int)} (hr:rows[i]?=some r) (hne:r≠[]) :
  ∃ (g2 cap2:Nat),vs[i]?=some (.slice (some ⟨g2,0,none⟩) r.length cap2)∧r.length≤cap2∧g2<w.heap.size:=by
 have hi:=(List.getElem?_eq_some_iff.1 hr).1;have hl:=h.2.1;have hu:vs[i]?=some (vs[i]'(by omega)):=List.getElem?_eq_getElem (by omega)
 rcases (h.2.2.1 i _ r hu hr).forms with ⟨-,h4⟩ | ⟨g2,cap2,e,hg,hg2,hc2,-⟩
 ·exact absurd h4 hne
 exact ⟨g2,cap2,by rw [hu,e],hc2,hg2⟩
theorem bX.form {w:World} {base:Nat} {v:Value} {vs:List Value} {rows:List (List (Int × Int))} (h:bX w base v vs rows) (hne:rows≠[]):∃ (g cap:Nat),v=.slice (some ⟨g,0,none⟩) rows.length cap∧rows.length≤cap∧cap≤9223372036854775807∧g<w.heap.size:=by
 rcases h.1.2 with ⟨-,h2⟩ | ⟨g,cap,cur,e,hg,hh,hc,hm,-⟩
 ·exact absurd (List.eq_nil_of_length_eq_zero h2) hne
 exact ⟨g,cap,e,hc,by unfold maxLen at hm;omega,(Array.getElem?_eq_some_iff.1 hh).1⟩
theorem bX.iF {w:World} {base g n cap:Nat} {vs:List Value} {rows:List (List (Int × Int))} (h:bX w base (.slice (some ⟨g,0,none⟩) n cap) vs rows) {i:Nat} {u:Value} (hu:vs[i]?=some u):w.cell? ⟨g,i,none⟩=some u:=by
 have hi:=(List.getElem?_eq_some_iff.1 hu).1;have hl:=h.2.1;have h1:=h.1
 rcases h1.2 with ⟨e,-⟩ | ⟨g1,c1,DE,e,-⟩
 ·cases e
 injection e with _ e2 _
 subst e2;exact (World.ownsRow.cellAt h1 i (by omega)).trans hu
theorem bX.rowFrom {w:World} {base:Nat} {v:Value} {vs:List Value} {rows:List (List (Int × Int))} (h:bX w base v vs rows) {i g2 cap2 n2:Nat} {r:List (Int × Int)} (hu:vs[i]?=some (.slice (some ⟨g2,0,none⟩) n2 cap2)) (hr:rows[i]?=some r):Rw.From EP w (some ⟨g2,0,none⟩) r:=by
 have ho:=h.2.2.1 i _ r hu hr
 rcases ho.forms with ⟨e,-⟩ | ⟨g3,L2,e,hg,hg3,hc3,-⟩
 ·cases e
 injection e with e1 e2 e3
 have:=ho.wL e2 (ho.lt g2 rfl).2 (yM _ w) r.length;rw [List.take_length] at this;exact this
theorem Rw.From.at2 {w:World} {g c:Nat} {r:List (Int × Int)} {q:Int × Int} (h:Rw.From EP w (some ⟨g,0,none⟩) r) (hq:r[c]?=some q):w.cell? ⟨g,c*2,none⟩=some (.int .i64 q.1)∧w.cell? ⟨g,c*2+1,none⟩=some (.int .i64 q.2):=by
 have hadd:∀ b i:Nat,(⟨b,0,none⟩:Addr).add i=⟨b,i,none⟩:=fun b i=>by unfold Addr.add;split <;> simp_all
 have hc:∀ (t:Nat) (u:Value),t<2→(EP.cells q)[t]?=some u→w.cell? ⟨g,c*2+t,none⟩=some u:=fun t u ht hu=>by
  obtain ⟨ad,e,hh⟩:=h (c*2+t) u ((Rw.flat_get EP r c t q hq ht).trans hu);have:=Option.some.inj e;subst this;rw [hadd] at hh;exact hh
 exact ⟨hc 0 _ (by decide) rfl,hc 1 _ (by decide) rfl⟩
theorem bX.vI {w w':World} {base g:Nat} {T:TypeId} {v x y:Value} {vs:List Value} {rows:List (List (Int × Int))} (h:bX w base v vs rows) (K:aH w g T #[x]) (hT:T≠68) (Dr:T≠110) (hb:Below w.heap.size (w.setCell ⟨g,0,none⟩ y) w'):bX w' base v vs rows:=
 (h.di K hT Dr y).below (bG hb)
theorem bX.held {w1 w:World} {base g:Nat} {T:TypeId} {v x:Value} {vs:List Value} {rows:List (List (Int × Int))} (h:bX w1 base v vs rows) (hH:Rg.Held w1 g w) (K:aH w1 g T #[x]) (hT:T≠68) (Dr:T≠110):bX w base v vs rows:=by
 have key:∀ {t:TypeId} {k n:Nat} {u:Value} {zs:List Value},w1.ownsRow base t k u n zs→T≠t→w.ownsRow base t k u n zs:=fun {t k n u zs} h ht=>by
  refine ⟨h.1,?_⟩
  rcases h.2 with h2 | ⟨g1,c1,DE,e,h3,h4,h5⟩
  ·exact Or.inl h2
  have hne:g1≠g:=fun e2=>by
   subst e2;unfold aH at K;rw [h4] at K
   injection K with K
   injection K with _ K2
   exact ht K2.symm
  exact Or.inr ⟨g1,c1,DE,e,h3,hH.2 g1 t DE hne h4,h5⟩
 obtain ⟨h1,h2,h3,h4⟩:=h;exact ⟨key h1 Dr,h2,fun i u r hu hr=>key (h3 i u r hu hr) hT,h4⟩
def xT (n:Nat) (s1 s2:Value) (nr:List (Int × Int)) (b2:Nat) (rows:M.zQ) (w0 w2:World) (x8 x9 x10 Nx Ny:Value) (w:World):Prop:=match n with
 | 0=>Below w0.heap.size w0 w
 | 1=>∃ h,x8=.slice (some ⟨h,0,none⟩) 2 2∧w.cell? ⟨h,0,none⟩=some s1∧w.cell? ⟨h,1,none⟩=some s2∧Below w0.heap.size w0 w
 | 2=>Rw.Own EP w w0.heap.size x9 nr∧Below w0.heap.size w0 w
 | 3=>∃ w3,w=w3.alloc (.cells #[x9] 110)∧x10=.slice (some ⟨w3.heap.size,0,none⟩) 1 1∧Rw.Own EP w3 w0.heap.size x9 nr∧Below w0.heap.size w0 w3
 | 4=>dz w b2 Nx (rows ++ [nr])∧Below b2 w2 w
 | _=>dz w b2 Ny (rows ++ [nr])∧Below b2 w2 w
theorem xm (n:Nat):∀ (m:M.zQ) (v:Value) (g base:Nat) (ok:Bool) (w:World),n≤3→M.square (n+1) m→M.Gk m→dz w base v m→aH w g 94 #[.bool ok]→
  Calls Tryz.prog 59 #[.pointer (some ⟨g,0,none⟩),v] w fun e w'=>e=.returned (.agg #[.int .i64 (M.yx (M.fg ok (n+1) m)),.int .i64 (M.y_ (M.fg ok (n+1) m))])∧Below w.heap.size (w.setCell ⟨g,0,none⟩ (.bool (ok && (M.ch (n+1) m).isSome))) w':=by
 induction n with
 | zero=>
  intro m v g base ok w hn AG hok hm K
  obtain ⟨q,rfl⟩:∃ q,m=[[q]]:=by
   obtain ⟨h1,h2⟩:=AG;obtain ⟨r,rfl⟩:=List.length_eq_one_iff.1 h1;obtain ⟨q,rfl⟩:=List.length_eq_one_iff.1 (h2 r (List.mem_cons_self ..));exact ⟨q,rfl⟩
  obtain ⟨q1,q2⟩:=q;obtain ⟨gm,cap,g2,cap2,rfl,k0,k1,k2⟩:=hm.at (i:=0) (j:=0) rfl rfl;simp only [Nat.zero_mul,Nat.zero_add,List.length_cons,List.length_nil] at k0 k1 k2 ⊢;have e1:M.yx (M.fg ok 1 [[(q1,q2)]])=q1:=rfl;have e2:M.y_ (M.fg ok 1 [[(q1,q2)]])=q2:=rfl
  have e3:(ok && (M.ch 1 [[(q1,q2)]]).isSome)=ok:=by cases ok <;> rfl
  rw [e1,e2,e3];clear e1 e2 e3 hok AG hm;have B:=(yM w.heap.size w).alloc (yN _) (.cells #[.int .i64 0,.int .i64 0] 68);have R:=aH.new w #[.int .i64 0,.int .i64 0] 68;replace k0:=aE B k0;replace k1:=aE B k1;replace k2:=aE B k2;replace B:=Rg.eJ K B;generalize hw3:w.alloc (.cells #[.int .i64 0,.int .i64 0] 68)=wc at *;have ⟨r0,r1,z0,z1,rl⟩:=R.box;go_enter Tryz.func59,Tryz.ntmps59
  go_wp2;exact bodyPost_ret (v:=.agg #[.int .i64 q1,.int .i64 q2]) (by simp [results,Tryz.results59,go_sem, *]) rfl (⟨rfl,yL (yL B (by simp) _) (by simp) _⟩)
 | succ n ih=>
 intro m v g base ok w hn AG hok hm K0;obtain ⟨vs,hm⟩:=hm;have hml:m.length=n+2:=AG.1
 obtain ⟨r0,hr0⟩:∃ r,m[0]?=some r:=⟨_,List.getElem?_eq_getElem (by omega)⟩
 have BD:r0.length=n+2:=AG.2 r0 (List.mem_of_getElem? hr0)
 have hhd:m.headD []=r0:=by
  cases m with
  | nil=>cases hr0
  | cons x m=>exact Option.some.inj hr0
 obtain ⟨gm,DD,rfl,hcm,hcm2,hgm⟩:=hm.form (fun h=>by rw [h] at hml;simp only [List.length_nil] at hml;omega);obtain ⟨g0,cap0,hv0,hc0,hg0⟩:=hm.rowIs hr0 (fun h=>by rw [h] at BD;simp only [List.length_nil] at BD;omega);rw [BD] at hv0 hc0;rw [hml] at hm hcm ⊢;have ES:=hm.iF hv0;have hsd:M.fi ok n m (n+2)=M.fg ok (n+1+1) m∧(ok && (M.dj n m (n+2)).isSome)=(ok && (M.ch (n+1+1) m).isSome):=M.uY (ok:=ok) AG;have hsd:=yJ hsd;have AG:=yJ AG;have hr0:=yJ hr0;have BD:=yJ BD;have hml:=yJ hml;have hhd:=yJ hhd;have hok:=yJ hok;have hm:=yJ hm;have hv0:=yJ hv0;have ih:=yJ ih;have hsz:=yK w (.cells #[.int .i64 0,.int .i64 0] 68);obtain ⟨wc,hw3,R,B⟩:=gU w #[.int .i64 0,.int .i64 0] 68;rw [hw3] at hsz;have S:=aH.new wc #[.int .i64 0,.int .i64 0] 68;replace B:=B.alloc (by omega) (.cells #[.int .i64 0,.int .i64 0] 68);replace R:=R.alloc (.cells #[.int .i64 0,.int .i64 0] 68);have hgl:=K0.lt
 have nR:w.heap.size≠g:=by omega
 have nS:wc.heap.size≠g:=by omega
 have nR2:g≠w.heap.size:=by omega
 have Je:g≠wc.heap.size:=by omega
 have hwl:w.heap.size<wc.heap.size:=by omega
 clear hsz;have K:=K0.keep B;have hwz:wc.heap.size+1≤(wc.alloc (.cells #[.int .i64 0,.int .i64 0] 68)).heap.size:=S.lt;replace ES:=aE B ES;replace B:=Rg.eJ K0 B
 have hn1:(n:Int)≤2:=by omega
 have hne1:((n:Int)+2 == 1)=false:=by rw [beq_eq_false_iff_ne];omega
 go_enter Tryz.func59,Tryz.ntmps59
 go_wp2
 go_loopw [25] (fun vc wq=>∃ c:Nat,c≤n+2∧vc=.int .i64 (c:Int)∧aH wq g 94 #[.bool (ok && (M.dj n m c).isSome)]∧aH wq wc.heap.size 68 #[.int .i64 (M.yx (M.fi ok n m c)),.int .i64 (M.y_ (M.fi ok n m c))]∧aH wq w.heap.size 68 #[.int .i64 0,.int .i64 0]∧wc.heap.size+1≤wq.heap.size∧Below w.heap.size (w.setCell ⟨g,0,none⟩ (.bool (ok && (M.dj n m c).isSome))) wq) (fun vc _=>n+2 - (intOf vc).toNat)
 case atStart=>
  have e0:(ok && (M.dj n m 0).isSome)=ok:=by cases ok <;> rfl
  exact ⟨0,Nat.zero_le _,rfl,by rw [e0];exact K,S,R,hwz,by rw [e0];exact B⟩
 case round=>
 clear K S R B hwz ES;obtain ⟨c,hc,rfl,K,S,R,hwz,B⟩:=hrel;generalize hwo:wr=wo at *;clear hwo
 by_cases hlt:c<n+2
 ·obtain ⟨q,hq⟩:∃ q,r0[c]?=some q:=⟨_,List.getElem?_eq_getElem (by have:=BD.out;omega)⟩
  have IL:M.AU (some q):=fun p hp=>by
   obtain rfl:=Option.some.inj hp;exact hok.out r0 (List.mem_of_getElem? hr0.out) _ (List.mem_of_getElem? hq)
  have C_:=yJ (hm.out.vI K0 (by decide) (by decide) B);obtain ⟨d0,d1⟩:=(C_.out.rowFrom hv0.out hr0.out).at2 hq
  obtain ⟨fc,hfc⟩:∃ x,x=(ok && (M.dj n m c).isSome):=⟨_,rfl⟩
  obtain ⟨us,Jb⟩:∃ x,x=M.fi ok n m c:=⟨_,rfl⟩
  obtain ⟨u1,hu1⟩:∃ x,x=M.fg fc (n+1) (M.cM m c):=⟨_,rfl⟩
  obtain ⟨f1,hf1⟩:∃ x,x=(fc && (M.ch (n+1) (M.cM m c)).isSome):=⟨_,rfl⟩
  obtain ⟨u2,hu2⟩:∃ x,x=M.gd f1 (M.fI (some q) u1):=⟨_,rfl⟩
  obtain ⟨hk1,hk2⟩:=M.q8 hfc hf1 hu1 (by rw [hhd.out];exact hq) hu2
  have hfs:fc=true→us.isSome=true:=fun h=>by rw [Jb];exact M.rq (by rw [←hfc];exact h)
  have GA:f1=true→fc=true:=fun h=>by rw [hf1,Bool.and_eq_true] at h;exact h.1
  have IA:f1=true→u1.isSome=true:=fun h=>by rw [hu1];exact M.qz (by rw [←hf1];exact h)
  have GZ:u2.isSome=true→f1=true:=fun h=>by rw [hu2] at h;exact (M.iT h).1
  have D3:=M.iI AG.out hlt;have hok1:=M.lQ (c:=c) hok.out
  have PD:=fun vo b W h K=>ih.out (M.cM m c) vo g b fc W (by omega) D3 hok1 h K
  rw [←hu1,←hf1] at PD
  have PT:=fun W K=>tm g f1 (some q) u1 W K IL (by rw [hu1];exact M.ur hok1) (fun _=>rfl) IA
  rw [←hu2] at PT
  have hsu:M.AU us:=by rw [Jb];exact M.vf
  have Ga:M.AU u2:=by rw [hu2];exact M.ic M.qU
  have PP:=fun W K=>qP g u2.isSome us u2 W K hsu Ga (fun h=>hfs (GA (GZ h))) (fun h=>h)
  have PM:=fun W K=>kK g u2.isSome us u2 W K hsu Ga (fun h=>hfs (GA (GZ h))) (fun h=>h)
  rw [←Jb] at hk1 hk2 S;rw [←hfc] at K B;rw [hk1] at hk2;have hmin:=yJ (fun (i:Nat) (r:List (Int × Int)) (h:m[i+1]?=some r)=>M.rP (c:=c) h);have CM:=yJ (M.pR (c:=c) (n:=n+1) hml.out)
  obtain ⟨mm,hmm⟩:∃ x,x=M.cM m c:=⟨_,rfl⟩
  rw [←hmm] at hmin CM PD;clear hmm D3 hok1 hfs GA IA GZ hsu Ga hu2 hf1 hu1 hfc Jb IL;obtain ⟨q1,q2⟩:=q;have e1:M.yx (some (q1,q2))=q1:=rfl;have e2:M.y_ (some (q1,q2))=q2:=rfl;rw [e1,e2] at PT;simp only [] at d0 d1;clear e1 e2 hq;generalize M.y_ u1=h1,M.yx u1=l1 at *
  have hq2:M.dy us u2 c=if c % 2=0 then M.eu us u2 else M.cW us u2:=rfl
  rw [hq2] at hk1;clear hq2
  obtain ⟨un,hun⟩:∃ x,x=M.fi ok n m (c+1):=⟨_,rfl⟩
  obtain ⟨fn,hfn⟩:∃ x,x=(ok && (M.dj n m (c+1)).isSome):=⟨_,rfl⟩
  rw [←hun] at hk1 hk2;rw [←hfn] at hk2;replace hun:=yJ hun;replace hfn:=yJ hfn
  obtain ⟨f2,hf2⟩:∃ x,x=u2.isSome:=⟨_,rfl⟩
  rw [←hf2] at PT PP PM hk1;clear hf2;generalize M.y_ u2=h2,M.yx u2=l2 at *
  obtain ⟨l5,hl5⟩:∃ x,x=M.yx us:=⟨_,rfl⟩
  obtain ⟨h5,hh5⟩:∃ x,x=M.y_ us:=⟨_,rfl⟩
  rw [←hl5,←hh5] at PP PM S;clear hl5 hh5
  obtain ⟨l6,GL⟩:∃ x,x=M.yx un:=⟨_,rfl⟩
  obtain ⟨h6,GF⟩:∃ x,x=M.y_ un:=⟨_,rfl⟩
  have PQ:(c % 2=0→∀ W,aH W g 94 #[.bool f2]→Calls Tryz.prog 81 #[.pointer (some ⟨g,0,none⟩),.agg #[.int .i64 l5,.int .i64 h5],.agg #[.int .i64 l2,.int .i64 h2]] W fun e w'=>e=.returned (.agg #[.int .i64 l6,.int .i64 h6])∧Below W.heap.size (W.setCell ⟨g,0,none⟩ (.bool fn)) w'):=fun h W K=>by
   rw [if_pos h] at hk1;have:=PP W K;rw [hk1,hk2,←GL,←GF] at this;exact this
  have PR:(c % 2=1→∀ W,aH W g 94 #[.bool f2]→Calls Tryz.prog 82 #[.pointer (some ⟨g,0,none⟩),.agg #[.int .i64 l5,.int .i64 h5],.agg #[.int .i64 l2,.int .i64 h2]] W fun e w'=>e=.returned (.agg #[.int .i64 l6,.int .i64 h6])∧Below W.heap.size (W.setCell ⟨g,0,none⟩ (.bool fn)) w'):=fun h W K=>by
   rw [if_neg (by omega)] at hk1;have:=PM W K;rw [hk1,hk2,←GL,←GF] at this;exact this
  rw [hun.out] at GL GF;have GL:=yJ GL;have GF:=yJ GF;clear PP PM hk1 hk2 hun us u1 u2 un;replace PD:=yJ PD;replace PT:=yJ PT;replace PQ:=yJ PQ;replace PR:=yJ PR
  have ngw:g≠wo.heap.size:=by omega
  have Bv:=(yM wo.heap.size wo).alloc (yN _) (.cells #[.int .i64 q1,.int .i64 q2] 68);have X:=aH.new wo #[.int .i64 q1,.int .i64 q2] 68;have hX:=X.lt;have C_:=yJ (C_.out.below Bv);have hBs:=B.size;rw [aZ] at hBs;replace B:=B.trans (Bv.mono hBs);replace K:=K.keep Bv;replace S:=S.keep Bv;replace R:=R.keep Bv;generalize hw2:wo.alloc (.cells #[.int .i64 q1,.int .i64 q2] 68)=wb at *;clear Bv
  have hcap1:¬ DD=1:=by omega
  go_wp2
  go_loopw [8,33] (fun vo vi wi=>∃ (i:Nat) (u:Value),i≤n+1∧vi=.int .i64 (i:Int)∧u=vo∧Hid (dz wi wb.heap.size u (mm.take i))∧Below wb.heap.size wb wi) (fun _ vi _=>n+1 - (intOf vi).toNat)
  case atStart=>exact ⟨0,_,Nat.zero_le _,rfl,rfl,yJ (dz.nil _ _),yM _ _⟩
  case round=>
  clear d0 d1;obtain ⟨i,vo,hi,rfl,rfl,hrow,Bi⟩:=hrel;have Ae:=yJ (C_.out.below Bi)
  by_cases hlt2:i<n+1
  ·obtain ⟨r,hr⟩:∃ r,m[i+1]?=some r:=⟨_,List.getElem?_eq_getElem (by have:=hml.out;omega)⟩
   have hrl:r.length=n+2:=AG.out.2 r (List.mem_of_getElem? hr);obtain ⟨gi,yu,Gc,hci,hgi⟩:=Ae.out.rowIs hr (fun h=>by rw [h] at hrl;simp only [List.length_nil] at hrl;omega);have IZ:=Ae.out.iF Gc;rw [Nat.add_comm i 1] at IZ;have FR:=Ae.out.rowFrom Gc hr;rw [hrl] at IZ hci;have hcell:=hmin.out i r hr
   obtain ⟨nr,hnr⟩:∃ x,x=r.take c ++ r.drop (c+1):=⟨_,rfl⟩
   rw [←hnr] at hcell;have F1:=yJ (FR.cut c);have F2:=yJ (FR.qZ (c+1) yu (by omega))
   have hl1:(r.take c).length=c:=by rw [List.length_take];omega
   have hl2:(r.drop (c+1)).length=n+2 - (c+1):=by rw [List.length_drop,hrl]
   have PC:=fun W h k0 k1 (b:Below wr.heap.size wr W)=>sv h c yu (n+2 - (c+1)) (yu - (c+1)) _ _ (r.take c) (r.drop (c+1)) W k0 k1 hl1 hl2 (F1.out.below b) (F2.out.below b) (by omega) (by omega)
   rw [←hnr] at PC;have hnx:=M.iq hcell;have hnx:=yJ hnx;obtain ⟨vs2,BE⟩:=hrow.out;have BE:=yJ BE
   have hlen:(mm.take i).length≤1000000000:=by rw [List.length_take];omega
   have hEP:EP.k=2:=rfl;rw [hEP] at PC;clear hEP hcell hnr F1 F2 hl1 hl2 FR Gc hr hrl;replace PC:=yJ PC
   have hcc:((c:Nat):Int)≤4:=by omega
   have F9:((c:Nat):Int)≤((n+2:Nat):Int):=by omega
   have Mc:((c:Nat):Int)≤((yu:Nat):Int):=by omega
   have Md:((c:Nat):Int)+1≤((n+2:Nat):Int):=by omega
   go_upto_region 11 with fail
   refine Rg.ou (fun k v w=>xT k (.slice (some ⟨gi,0,none⟩) c yu) (.slice (if yu=c+1 then some ⟨gi,0,none⟩ else some ⟨gi,(c+1)*2,none⟩) (n+2 - (c+1)) (yu - (c+1))) nr wb.heap.size (mm.take i) wr wb (v 8) (v 9) (v 10) (v 11) (v 12) w) [8,9,10,11,12] [vo,.slice (some ⟨gi,0,none⟩) (n+2) yu,.int .i64 ((c:Nat):Int),.slice (some ⟨gi,0,none⟩) c yu,.slice (some ⟨gi,0,none⟩) (n+2) yu,.int .i64 ((c:Nat):Int),.int .i64 ((c:Nat)+1),.slice (if yu=c+1 then some ⟨gi,0,none⟩ else some ⟨gi,(c+1)*2,none⟩) (n+2 - (c+1)) (yu - (c+1)),undef,undef,undef,undef,undef] (by kernel_rfl) (by kernel_rfl) (by kernel_rfl) (by decide) (fun k v v2 w h hj=>by rw [←h 8 (by decide),←h 9 (by decide),←h 10 (by decide),←h 11 (by decide),←h 12 (by decide)];exact hj) (fun _=>(yM _ wr).drew) ⟨?_,?_,?_,?_,?_,?_,?_,?_,?_,?_,?_,?_,?_,trivial⟩ ?_
   ·unfold Rg.aj
    rw [if_neg (by decide)];intro zZ w_ n_ f_ zg hJ hr;refine ⟨rfl,?_⟩;have e8:zZ.tmps[8]?=some (vo):=hr 8 (by decide)
    go_simp
   ·unfold Rg.aj
    rw [if_neg (by decide)];intro zZ w_ n_ f_ zg hJ hr;refine ⟨rfl,?_⟩;have e10:zZ.tmps[10]?=some (.slice (some ⟨gi,0,none⟩) (n+2) yu):=hr 10 (by decide)
    go_simp
   ·unfold Rg.aj
    rw [if_neg (by decide)];intro zZ w_ n_ f_ zg hJ hr;refine ⟨rfl,?_⟩;have e6:zZ.tmps[6]?=some (.int .i64 ((c:Nat):Int)):=hr 6 (by decide)
    go_simp
   ·unfold Rg.aj
    rw [if_neg (by decide)];intro zZ w_ n_ f_ zg hJ hr;refine ⟨rfl,?_⟩;have e38:zZ.tmps[38]?=some (.slice (some ⟨gi,0,none⟩) (n+2) yu):=hr 38 (by decide);have e39:zZ.tmps[39]?=some (.int .i64 ((c:Nat):Int)):=hr 39 (by decide)
    (first | (go_simp;done) | (go_simp;exact Rg.wr (by omega) (by omega)) | (go_simp;omega) | (go_simp;rfl))
   ·unfold Rg.aj
    rw [if_neg (by decide)];intro zZ w_ n_ f_ zg hJ hr;refine ⟨rfl,?_⟩;have e10:zZ.tmps[10]?=some (.slice (some ⟨gi,0,none⟩) (n+2) yu):=hr 10 (by decide)
    go_simp
   ·unfold Rg.aj
    rw [if_neg (by decide)];intro zZ w_ n_ f_ zg hJ hr;refine ⟨rfl,?_⟩;have e6:zZ.tmps[6]?=some (.int .i64 ((c:Nat):Int)):=hr 6 (by decide)
    go_simp
   ·unfold Rg.aj
    rw [if_neg (by decide)];intro zZ w_ n_ f_ zg hJ hr;refine ⟨rfl,?_⟩;have e42:zZ.tmps[42]?=some (.int .i64 ((c:Nat):Int)):=hr 42 (by decide);have ec:=Rg.ec zZ
    (first | (go_simp;done) | (go_simp;exact Rg.wr (by omega) (by omega)) | (go_simp;omega) | (go_simp;rfl))
   ·unfold Rg.aj
    rw [if_neg (by decide)];intro zZ w_ n_ f_ zg hJ hr;refine ⟨rfl,?_⟩;have e41:zZ.tmps[41]?=some (.slice (some ⟨gi,0,none⟩) (n+2) yu):=hr 41 (by decide);have e43:zZ.tmps[43]?=some (.int .i64 ((c:Nat)+1)):=hr 43 (by decide)
    have hcN:((c:Nat):Int)+1≤((n+2:Nat):Int):=by omega
    (first | (go_simp;done) | (go_simp;exact Rg.wr (by omega) (by omega)) | (go_simp;omega) | (go_simp;rfl))
   ·unfold Rg.aj
    rw [if_pos (by decide)];intro zZ w_ f_ hJ hr;have e40:zZ.tmps[40]?=some (.slice (some ⟨gi,0,none⟩) c yu):=hr 40 (by decide);have e44:zZ.tmps[44]?=some (.slice (if yu=c+1 then some ⟨gi,0,none⟩ else some ⟨gi,(c+1)*2,none⟩) (n+2 - (c+1)) (yu - (c+1))):=hr 44 (by decide);refine ⟨rfl,?_⟩;have hJ:Below wr.heap.size wr w_:=hJ;refine Rg.kL (x:=.slice (some ⟨w_.heap.size,0,none⟩) 2 2) (ob:=.cells #[.slice (some ⟨gi,0,none⟩) c yu,.slice (if yu=c+1 then some ⟨gi,0,none⟩ else some ⟨gi,(c+1)*2,none⟩) (n+2 - (c+1)) (yu - (c+1))] 110) (by first | (go_simp;done) | (go_simp;rfl)) ?_;exact ⟨_,rfl,Rg.nK _ _ _ 0 _ rfl,Rg.nK _ _ _ 1 _ rfl,hJ.alloc hJ.size _⟩
   ·unfold Rg.aj
    rw [if_pos (by decide)];intro zZ w_ f_ hJ hr;have e45:zZ.tmps[45]?=some (f_ 8):=hr 45 (by decide)
    have ef:∀ f,zZ.eval (.func f)=.func (.func f) #[] #[]:=fun _=>rfl
    refine ⟨rfl,?_⟩;obtain ⟨h_,e8_,k0_,k1_,zj⟩:=hJ;rw [e8_] at e45;refine Rg.eh (by go_simp;exact ⟨rfl,rfl⟩) ?_;refine (PC.out w_ h_ k0_ k1_ zj).mono ?_;rintro e w5 ⟨v5,rfl,yV,hb5⟩;exact ⟨_,rfl,(yV.down zj.size:Rw.Own EP w5 wr.heap.size v5 nr),i_ zj hb5⟩
   ·unfold Rg.aj
    rw [if_pos (by decide)];intro zZ w_ f_ hJ hr;have e46:zZ.tmps[46]?=some (f_ 9):=hr 46 (by decide);refine ⟨rfl,?_⟩;obtain ⟨yt,zj⟩:=hJ;have yt:Rw.Own EP w_ wr.heap.size (f_ 9) nr:=yt;refine Rg.kL (x:=.slice (some ⟨w_.heap.size,0,none⟩) 1 1) (ob:=.cells #[f_ 9] 110) (by rcases yt.forms with ⟨q_,-⟩ | ⟨g_,c_,q_,-⟩ <;> rw [q_] at e46 ⊢ <;> (first | (go_simp;done) | (go_simp;rfl))) ?_;exact ⟨w_,rfl,rfl,yt,zj⟩
   ·unfold Rg.aj
    rw [if_pos (by decide)];intro zZ w_ f_ hJ hr;have e37:zZ.tmps[37]?=some (vo):=hr 37 (by decide);have e47:zZ.tmps[47]?=some (f_ 10):=hr 47 (by decide);refine ⟨rfl,?_⟩;obtain ⟨w3,NP,Cn,yt,zj⟩:=hJ;subst NP;have Cn:f_ 10=.slice (some ⟨w3.heap.size,0,none⟩) 1 1:=Cn;have yt:Rw.Own EP w3 wr.heap.size (f_ 9) nr:=yt;rw [Cn] at e47;have D4:Below wb.heap.size wb w3:=i_ Bi zj;obtain ⟨v6,w6,CT,Cb,Cx⟩:=ky (W:=wb) (w:=w3) 89 wb.heap.size (f_ 9) nr vs2 _ _ (BE.out.below zj) (yt.down Bi.size) (BE.out.fresh yt (yN _)) D4 D4.size hlen;refine Rg.ep (x:=v6) (w2:=w6) (Rg.eW rfl (Rg.ev e37) (Rg.ev e47) CT) ?_;exact ⟨⟨_,Cb⟩,Cx⟩
   ·unfold Rg.aj
    rw [if_pos (by decide)];intro zZ w_ f_ hJ hr;have e48:zZ.tmps[48]?=some (f_ 11):=hr 48 (by decide);refine ⟨rfl,?_⟩;refine Rg.ep (x:=f_ 11) (w2:=w_) (by first | (go_simp;done) | (go_simp;rfl)) ?_;exact hJ
   intro vals wz hJ hv;simp only [Rg.ak,Rg.fill,Act.put,Nat.reduceAdd];clear hv;obtain ⟨hM2,hB2⟩:=hJ;have hM2:dz wz wb.heap.size (vals 12) (mm.take i ++ [nr]):=hM2;rw [←hnx.out] at hM2;have hM2:=yJ hM2;clear hnx BE PC;go_wp2
   go_roundw
   case rel=>exact ⟨i+1,_,by omega,by go_num,rfl,hM2,hB2⟩
   case measure=>simp [intOf] <;> omega
  obtain rfl:i=n+1:=by omega
  have CG:dz wr wb.heap.size vo mm:=by
   have h:=hrow.out;rw [List.take_of_length_le (by rw [CM.out];omega)] at h;exact h
  have CG:=yJ CG
  have MI:w.heap.size≤wb.heap.size:=by omega
  replace B:=B.trans (Bi.mono MI);replace K:=K.keep Bi;replace S:=S.keep Bi;replace R:=R.keep Bi;replace X:=X.keep Bi;clear hrow Ae C_ Bi
  have nXg:wo.heap.size≠g:=by omega
  go_upto_region 13 with fail
  refine Rg.wP (g) 94 (fun n=>match n with | 0=>.bool fc | 1=>.bool f1 | _=>.bool f2) [4,5] 6 7 68 #[.int .i64 0,.int .i64 0] #[.int .i64 l2,.int .i64 h2] [.is (.pointer (some ⟨g,0,none⟩)),.is (.agg #[.int .i64 q1,.int .i64 q2]),.is (.pointer (some ⟨g,0,none⟩)),.is (vo),.is (.agg #[.int .i64 l1,.int .i64 h1]),.is (.agg #[.int .i64 l2,.int .i64 h2]),.is (undef),.is (undef)] (by kernel_rfl) (by kernel_rfl) (by kernel_rfl) (fun j h1 h2=>match j,h1,h2 with | 0,h1,h2=>rfl | 1,h1,h2=>rfl | 2,h1,h2=>rfl | 3,h1,h2=>rfl | 4,h1,h2=>rfl | 5,h1,h2=>rfl | 6,h1,h2=>absurd rfl h1 | 7,h1,h2=>absurd rfl h2 | n+8,_,_=>rfl) (by decide) (by decide) (by decide) (by decide) K ⟨?_,?_,?_,?_,?_,?_,?_,?_,trivial⟩ ?_
  ·unfold Rg.bf
   rw [if_neg (by decide),if_neg (by decide),if_neg (by decide)];intro zZ w_ hH hr;have e0:zZ.tmps[0]?=some (.pointer (some ⟨g,0,none⟩)):=hr 0 (by decide);exact Rg.aG rfl (by go_simp)
  ·unfold Rg.bf
   rw [if_neg (by decide),if_neg (by decide),if_neg (by decide)];intro zZ w_ hH hr;have e7:zZ.tmps[7]?=some (.pointer (some ⟨wo.heap.size,0,none⟩)):=hr 7 (by decide);have k0:=(hH.2 _ _ _ nXg X).box.c0;have k1:=(hH.2 _ _ _ nXg X).box.c1;exact Rg.aG rfl (by go_simp)
  ·unfold Rg.bf
   rw [if_neg (by decide),if_neg (by decide),if_neg (by decide)];intro zZ w_ hH hr;have e0:zZ.tmps[0]?=some (.pointer (some ⟨g,0,none⟩)):=hr 0 (by decide);exact Rg.aG rfl (by go_simp)
  ·unfold Rg.bf
   rw [if_neg (by decide),if_neg (by decide),if_neg (by decide)];intro zZ w_ hH hr;have e8:zZ.tmps[8]?=some (vo):=hr 8 (by decide);exact Rg.aG rfl (by go_simp)
  ·unfold Rg.bf
   rw [if_neg (by decide),if_neg (by decide),if_pos (by decide)];intro zZ w_ K_ hH hr;replace K_:aH w_ (g) 94 #[.bool fc]:=K_;have e52:=Rg.a_ (hr 52 (by decide));have e53:=Rg.a_ (hr 53 (by decide));have ef:=Rg.ef zZ;exact Rg.fO rfl (by go_simp) (PD.out _ _ _ (CG.out.elim fun _ h_=>⟨_,h_.held hH K (by decide) (by decide)⟩) K_)
  ·unfold Rg.bf
   rw [if_neg (by decide),if_neg (by decide),if_pos (by decide)];intro zZ w_ K_ hH hr;replace K_:aH w_ (g) 94 #[.bool f1]:=K_;have e50:=Rg.a_ (hr 50 (by decide));have e51:=Rg.a_ (hr 51 (by decide));have e54:=Rg.a_ (hr 54 (by decide));have ef:=Rg.ef zZ;exact Rg.fO rfl (by go_simp) (PT.out _ K_)
  ·unfold Rg.bf
   rw [if_pos rfl];intro zZ w_;exact Rg.lw rfl (by first | (go_simp;done) | (go_simp;rfl))
  ·unfold Rg.bf
   rw [if_neg (by decide),if_pos rfl];intro zZ w_ h_ hh hn hr;have e11:zZ.tmps[11]?=some (.pointer (some ⟨h_,0,none⟩)):=hr 11 (by decide);have e55:=Rg.a_ (hr 55 (by decide));have ⟨y0,y1,x0,x1,_⟩:=hn.box;refine ⟨rfl,?_⟩;unfold Oper.wp
   go_simp
   exact ⟨aH.set2 hn _ _,yL (yL (yM _ _) hh _) hh _⟩
  intro vals wz h_ hh hn Cz hB hv;replace hB:Below wr.heap.size (wr.setCell ⟨g,0,none⟩ (.bool f2)) wz:=hB;simp only [Rg.ak,Rg.fill,Act.put,Nat.reduceAdd];clear hv;simp only [Cz];clear Cz;have hB2:=bG hB;have B2:=Rg.fM B K0 K hB;replace S:=(S.other (i:=0) nS (.bool f2)).keep hB2;replace R:=(R.other (i:=0) nR (.bool f2)).keep hB2;replace K:=(K.one (.bool f2)).keep hB2;have ⟨s0,s1,y0,y1,sl⟩:=S.box;have ⟨t0,t1,_,_,_⟩:=hn.box;clear hB hB2 B PD PT CG X;have ht:Int.tmod ((c:Nat):Int) 2=((c % 2:Nat):Int):=(Int.ofNat_tmod c 2).symm
  rcases Nat.mod_two_eq_zero_or_one c with hp | hp
  ·rw [hp] at ht
   have PX:=yJ (PQ.out hp);clear PQ PR
   go_wp2_with (go_at_call 81;(with_reducible refine (PX.out _ K).mono ?_);rintro e w6 ⟨rfl,hb6⟩;have yh:=bG hb6;replace B2:=Rg.fM B2 K0 K hb6;replace S:=(S.other (i:=0) nS (.bool fn)).keep yh;replace R:=(R.other (i:=0) nR (.bool fn)).keep yh;replace K:=(K.one (.bool fn)).keep yh;(have ⟨s0,s1,y0,y1,sl⟩:=S.box))
   go_roundw
   case rel=>exact ⟨c+1,by omega,by go_num,by rw [←hfn.out];exact (K.other Je _).other Je _,by rw [←GL.out,←GF.out];exact aH.set2 S _ _,(R.other (by omega) _).other (by omega) _,by rw [aZ,aZ];omega,by rw [←hfn.out];exact yL (yL B2 (by show w.heap.size≤wc.heap.size;omega) _) (by show w.heap.size≤wc.heap.size;omega) _⟩
   case measure=>simp [intOf] <;> omega
  rw [hp] at ht;have PX:=yJ (PR.out hp);clear PQ PR
  go_wp2_with (go_at_call 82;(with_reducible refine (PX.out _ K).mono ?_);rintro e w6 ⟨rfl,hb6⟩;have yh:=bG hb6;replace B2:=Rg.fM B2 K0 K hb6;replace S:=(S.other (i:=0) nS (.bool fn)).keep yh;replace R:=(R.other (i:=0) nR (.bool fn)).keep yh;replace K:=(K.one (.bool fn)).keep yh;(have ⟨s0,s1,y0,y1,sl⟩:=S.box))
  go_roundw
  case rel=>exact ⟨c+1,by omega,by go_num,by rw [←hfn.out];exact (K.other Je _).other Je _,by rw [←GL.out,←GF.out];exact aH.set2 S _ _,(R.other (by omega) _).other (by omega) _,by rw [aZ,aZ];omega,by rw [←hfn.out];exact yL (yL B2 (by show w.heap.size≤wc.heap.size;omega) _) (by show w.heap.size≤wc.heap.size;omega) _⟩
  case measure=>simp [intOf] <;> omega
 obtain rfl:c=n+2:=by omega
 obtain ⟨e1,e2⟩:=hsd.out;rw [e1] at S;rw [e2] at B K;clear e1 e2 hsd
 obtain ⟨d1,hd1⟩:∃ x,x=M.yx (M.fg ok (n+1+1) m):=⟨_,rfl⟩
 obtain ⟨d2,hd2⟩:∃ x,x=M.y_ (M.fg ok (n+1+1) m):=⟨_,rfl⟩
 rw [←hd1,←hd2] at S;have hd1:=yJ hd1;have hd2:=yJ hd2;have ⟨s0,s1,y0,y1,sl⟩:=S.box;have ⟨t0,t1,z0,z1,tl⟩:=R.box;go_wp2;exact bodyPost_ret (v:=.agg #[.int .i64 d1,.int .i64 d2]) (by simp [results,Tryz.results59,go_sem, *]) rfl (⟨by rw [hd1.out,hd2.out],yL (yL B (yN _) _) (yN _) _⟩)
end
end Go.Proofs.YtgfkcoablfjbcaaGreat
