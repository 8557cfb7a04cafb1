/-
  Joined texts: contracts and plain lemmas.
-/
import Derived.Test.YtkalaljcbmkbmaaGreatB1
import Derived.Test.YtkalaljcbmkbmaaGreatB14
import Derived.Test.YtkalaljcbmkbmaaGreatB13
import Derived.Test.YtkalaljcbmkbmaaGreatShG
set_option linter.unusedSimpArgs false
set_option linter.unusedVariables false
set_option maxRecDepth 100000
set_option maxHeartbeats 8000000
namespace Go.Proofs.YtkalaljcbmkbmaaGreat
section
open Go.RowKit
theorem qX (gm n:Nat):fG gm n n=((List.range n).map fun i=>Value.slice (some ⟨gm+1+i,0,none⟩) n n).toArray:=by
 unfold fG
 congr 1
 apply List.map_congr_left
 intro i hi;rw [if_pos (List.mem_range.1 hi)]
theorem kB (a b:Int) (v:Value) (l:List Pt) (w:World) (hx:eA w v l) (hg:M.good a b=true) (hn:l.length<=4) (hp:∀ p ∈ l,M.aY a b p.1 p.2.1 p.2.2=true) :
  Calls Tryz.prog 72 #[.agg #[a,b],v] w fun e w'=>∃ mv,e=.returned (.tuple #[mv,M.EO a b l])/\eI w' w.heap.size mv (M.d7 a b l)/\Below w.heap.size w w':=by
 have hin:=M.aj hg;obtain ⟨sa,cap,rfl,hv⟩:=hx;have hv:=DB hv;have hp:=DB hp
 obtain ⟨N,hN⟩:∃ N,Hid (l.length=N):=⟨_,DB rfl⟩
 rw [hN.out] at hn ⊢
 have hmk:=fun W=>zH W N hn
 have hms:=fun W=>xH W N hn
 obtain ⟨wc,hw3,C,G,B⟩:=fR w #[a,b] 25 (Array.replicate N (Value.slice none 0 0)) 130
 have hz:wc.heap.size=w.heap.size+1+1:=by rw [←hw3,DC,DC]
 have hr0:Array.replicate N (Value.slice none 0 0)=fG (w.heap.size+1) N 0:=by rw [qZ,List.toArray_replicate]
 rw [hr0] at G;clear hr0;go_enter Tryz.func72,Tryz.ntmps72
 go_wp2
 go_loopw [20] (fun vk wr=>∃ k:Nat,k<=N/\vk=.int .i64 k/\aG wr (w.heap.size+1) 130 (fG (w.heap.size+1) N k)/\wr.heap.size=w.heap.size+1+1+k/\(∀ i,i<k->aG wr (w.heap.size+1+1+i) 74 (bf (List.replicate N (0,0))))/\aG wr w.heap.size 25 #[a,b]/\Below w.heap.size w wr) (fun vk _=>N - (intOf vk).toNat)
 case atStart=>exact ⟨0,Nat.zero_le _,rfl,G,hz,fun i h=>absurd h (by omega),C,B⟩
 case round=>
 clear C B G hz hw3;obtain ⟨k,hk,rfl,G,hz,hrow,C,B⟩:=hrel
 by_cases hlt:k<N
 ·have Gb:=G.lt
  have G2:=G.alloc (.cells (bf (List.replicate N (0,0))) 74);have g0:=(G2.cell k).trans (uf hlt);have gf:=G2.DJ k;have Gn:=aG.new wr (bf (List.replicate N (0,0))) 74;have C2:=C.alloc (.cells (bf (List.replicate N (0,0))) 74);have B2:=B.alloc B.size (.cells (bf (List.replicate N (0,0))) 74);go_wp2
  go_roundw
  case rel=>
   refine ⟨k+1,by omega,by go_num,?_,?_,fun i hi2=>?_,C2.other (by omega) _,DD B2 (by simp) _⟩
   ·rw [←qY hlt,←hz]
    exact G2.set k _
   ·rw [aV,DC];omega
   rcases Nat.lt_or_ge i k with q | q
   ·exact ((hrow i q).alloc _).other (by omega) _
   obtain rfl:i=k:=by omega
   rw [←hz];exact Gn.other (by omega) _
  case measure=>simp [intOf] <;> omega
 obtain rfl:N=k:=by omega
 have hG:eW wr (w.heap.size+1) N (List.replicate N (List.replicate N (0,0))):=by
  refine ⟨List.length_replicate,by rw [←qX];exact G,fun i r hr=>?_⟩
  have hi:i<N:=by
   have:=(List.getElem?_eq_some_iff.1 hr).1;rw [List.length_replicate] at this;exact this
  rw [List.getElem?_replicate,if_pos hi] at hr;have e:=Option.some.inj hr;subst e;exact ⟨List.length_replicate,hrow i hi⟩
 rw [M.ul _ (M.fe a b l)] at hG;clear G hrow hz hmk hms hlt
 have hno:=DB fun i j h1 h2 h=>M.xC (a:=a) (b:=b) (l:=l) (i:=i) (j:=j) h1 h2 h
 have hrn:=DB fun h=>M.xO (a:=a) (b:=b) (l:=l) h
 go_wp2
 go_loopw [32] (fun vi wq=>∃ i:Nat,i<=N/\vi=.int .i64 i/\Hid (∀ i',i'<i->∀ j,j<l.length->(M.ent a b l i' j).isSome=true)/\Hid (eW wq (w.heap.size+1) N (M.dE N (M.done i i) (M.fe a b l)))/\aG wq w.heap.size 25 #[a,b]/\Below w.heap.size w wq) (fun vi _=>N - (intOf vi).toNat)
 case atStart=>exact ⟨0,Nat.zero_le _,rfl,DB (fun i' h=>absurd h (by omega)),DB hG,C,B⟩
 case round=>
 clear C B hG;obtain ⟨i,hi,rfl,hall,hG,C,B⟩:=hrel
 by_cases hlt:i<N
 ·obtain ⟨x,hx⟩:∃ x,l[i]?=some x:=⟨_,List.getElem?_eq_getElem (by have:=hN.out;omega)⟩
  obtain ⟨g,o_,rfl,hpt⟩:∃ g o_,sa=some ⟨g,o_,none⟩/\nG w g o_ l:=by
   rcases hv.out with h | h
   ·rw [h] at hx;cases hx
   exact h
  have hpt:=DB hpt;obtain ⟨d0,d1,d2⟩:=(hpt.out.below B) i x hx;have hpx:=hp.out x (List.mem_of_getElem? hx);have he:=M.po (a:=a) (b:=b) hx;have hx:=DB hx;obtain ⟨x1,x2,x3⟩:=x;simp only [] at d0 d1 d2 hpx he;have hb1:=M.dq hin hpx
  have PS:=fun W=>mI a b x1 x2 x3 W hg hb1.1 hb1.2.1 hb1.2.2.1 hb1.2.2.2.1
  clear hb1;generalize M.eD a b x1 x3=ss at *;have hni:=hno.out i i (by have:=hN.out;omega) (by have:=hN.out;omega);rw [he] at hni;have hgs:=hG.out.size (by omega);have Bv:=(DE wr.heap.size wr).alloc (DF _) (.cells #[x1,x2,x3] 40);have C1:=C.alloc (.cells #[x1,x2,x3] 40);have Z1:=aG.new wr #[x1,x2,x3] 40;have e_:=C1.box.c0;have f_:=C1.box.c1;have ⟨z0,z1,z2⟩:=Z1.aO
  cases ss with
  | none=>
   have hfin:=DB (hni rfl);have hfr:=DB (hrn.out hfin.out);have e9:=DB (show M.DQ none=0/\M.DZ none=0/\(none:M.Sp).isSome=false from ⟨rfl,rfl,rfl⟩);rw [e9.out.1,e9.out.2.1,e9.out.2.2] at PS;clear hni hno hrn e9 he;replace PS:=DB PS
   go_wp2_with (go_at_call 110;(with_reducible refine (PS.out _).mono ?_);rintro e w4 ⟨rfl,hb4⟩;replace Bv:=(d_ Bv hb4).alloc (Nat.le_trans Bv.size hb4.size) (.cells #[(0:Int),(0:Int)] 74);have V:=aG.new w4 #[(0:Int),(0:Int)] 74;have D7:=hb4.size;(rw [DC] at D7);replace Z1:=(Z1.keep hb4).alloc (.cells #[(0:Int),(0:Int)] 74);(have ⟨v0,v1,_,_,_⟩:=V.box))
   go_ret2;exact ⟨_,by rw [hfin.out];rfl,by rw [hfr.out];exact eI.nil _ _,d_ B Bv⟩
  | some q=>
  have hqe:M.fe a b l i i=q:=by unfold M.fe;rw [he];rfl
  have hqe:=DB hqe;have hsm:=DB (show (M.ent a b l i i).isSome=true by rw [he];rfl);obtain ⟨q1,q2⟩:=q;have e1:M.DQ (some (q1,q2))=q1:=rfl;have e2:M.DZ (some (q1,q2))=q2:=rfl;have e5:(some (q1,q2):M.Sp).isSome=true:=rfl;rw [e1,e2,e5] at PS;clear hni he e1 e2 e5;replace PS:=DB PS
  go_upto_region 13 with (go_at_call 110;(with_reducible refine (PS.out _).mono ?_);rintro e w4 ⟨rfl,hb4⟩;replace Bv:=(d_ Bv hb4).alloc (Nat.le_trans Bv.size hb4.size) (.cells #[q1,q2] 74);have V:=aG.new w4 #[q1,q2] 74;have D7:=hb4.size;(rw [DC] at D7);replace Z1:=(Z1.keep hb4).alloc (.cells #[q1,q2] 74);(have ⟨v0,v1,_,_,_⟩:=V.box))
  have hM:=(show dg w N a b x1 x2 x3 wr.heap.size _ _ from ⟨hG.out.below Bv,C.keep Bv,⟨by omega,Z1⟩,d_ B Bv⟩)
  have hS:=(show fV w N w4.heap.size (q1,q2) _ from ⟨by omega,V⟩)
  clear Bv C1 C e_ f_ z0 z1 z2 v0 v1 d0 d1 d2 PS Z1 V B hG D7 hb4
  have hii:((i:Nat):Int)<=4:=by omega
  generalize wr.heap.size=pb,w4.heap.size=sb,w4.alloc (.cells #[q1,q2] 74)=wd at *;have hM:=DB hM;have hS:=DB hS;refine Rg.Am (fun n W=>dg w N a b x1 x2 x3 pb (M.dE N (M.done i (i+n)) (M.fe a b l)) W/\fV w N sb (q1,q2) W) [7] [.slice (some ⟨w.heap.size+1,0,none⟩) N N,.int .i64 ((i:Nat):Int),.pointer (some ⟨w.heap.size+1,i,none⟩),.slice (some ⟨w.heap.size+1+1+i,0,none⟩) N N,.int .i64 ((i:Nat):Int),.agg #[q1,q2],.pointer (some ⟨w.heap.size+1+1+i,i*2,none⟩),undef] (by kernel_rfl) (by kernel_rfl) (by kernel_rfl) (by decide) (⟨hM.out.below (DE _ wd).drew,hS.out.below (DE _ wd).drew⟩) ⟨?_,?_,?_,?_,?_,?_,?_,?_,trivial⟩ ?_
  ·unfold Rg.be
   rw [if_neg (by decide)];intro zZ w_ n_ D8 hJ hr;refine ⟨rfl,?_⟩;have e6:zZ.tmps[6]?=some (.slice (some ⟨w.heap.size+1,0,none⟩) N N):=hr 6 (by decide);go_simp
  ·unfold Rg.be
   rw [if_neg (by decide)];intro zZ w_ n_ D8 hJ hr;refine ⟨rfl,?_⟩;have e8:zZ.tmps[8]?=some (.int .i64 ((i:Nat):Int)):=hr 8 (by decide);go_simp
  ·unfold Rg.be
   rw [if_neg (by decide)];intro zZ w_ n_ D8 hJ hr;refine ⟨rfl,?_⟩;have e45:zZ.tmps[45]?=some (.slice (some ⟨w.heap.size+1,0,none⟩) N N):=hr 45 (by decide);have e46:zZ.tmps[46]?=some (.int .i64 ((i:Nat):Int)):=hr 46 (by decide)
   have FA:((i:Nat):Int)<(N:Int):=by omega
   first | (go_simp;done) | (go_simp;omega)
  ·unfold Rg.be
   rw [if_neg (by decide)];intro zZ w_ n_ D8 hJ hr;refine ⟨rfl,?_⟩;have e47:zZ.tmps[47]?=some (.pointer (some ⟨w.heap.size+1,i,none⟩)):=hr 47 (by decide);have hr_:=eW.row hJ.1.1 (i:=i) (by omega)
   first | (go_simp;done)
  ·unfold Rg.be
   rw [if_neg (by decide)];intro zZ w_ n_ D8 hJ hr;refine ⟨rfl,?_⟩;have e8:zZ.tmps[8]?=some (.int .i64 ((i:Nat):Int)):=hr 8 (by decide);go_simp
  ·unfold Rg.be
   rw [if_neg (by decide)];intro zZ w_ n_ D8 hJ hr;refine ⟨rfl,?_⟩;have e10:zZ.tmps[10]?=some (.pointer (some ⟨sb,0,none⟩)):=hr 10 (by decide);have k0:=hJ.2.2.box.c0;have k1:=hJ.2.2.box.c1;go_simp
  ·unfold Rg.be
   rw [if_neg (by decide)];intro zZ w_ n_ D8 hJ hr;refine ⟨rfl,?_⟩;have e48:zZ.tmps[48]?=some (.slice (some ⟨w.heap.size+1+1+i,0,none⟩) N N):=hr 48 (by decide);have e49:zZ.tmps[49]?=some (.int .i64 ((i:Nat):Int)):=hr 49 (by decide)
   have FA:((i:Nat):Int)<(N:Int):=by omega
   first | (go_simp;done) | (go_simp;omega)
  ·unfold Rg.be
   rw [if_pos (by decide)];intro zZ w_ hJ hr;have e50:zZ.tmps[50]?=some (.agg #[q1,q2]):=hr 50 (by decide);have e51:zZ.tmps[51]?=some (.pointer (some ⟨w.heap.size+1+1+i,i*2,none⟩)):=hr 51 (by decide);refine ⟨rfl,?_⟩;obtain ⟨FU,IV⟩:=hJ;have FU:dg w N a b x1 x2 x3 pb (M.dE N (M.done i i) (M.fe a b l)) w_:=FU;have ⟨y0,y1,Ii,EX,xl_⟩:=eW.cells FU.1 (i:=i) (j:=i) (M.de _ _ (by omega)) (M.eV _ _ (by omega))
   have FA:((i:Nat):Int)<(N:Int):=by omega
   have FT:=dg.put FU (i:=i) (j:=i) (q:=(q1,q2)) (rows':=M.dE N (M.done i (i+1)) (M.fe a b l)) (M.de _ _ (by omega)) (by omega) (by rw [←hqe.out];exact M.xZ _ (by omega));have G6:=fV.put IV (i:=i) (j1:=i*2) (j2:=i*2+1) (u:=.int .i64 q1) (v:=.int .i64 q2) (by omega);clear FU IV;unfold Oper.wp;go_simp
   all_goals first | exact FT | exact ⟨FT,G6⟩
  intro vals wz hJ hv;simp only [Rg.bF,Rg.fill,Act.put,Nat.reduceAdd];clear hv;obtain ⟨hM2,-⟩:=hJ;have hM2:dg w N a b x1 x2 x3 pb (M.dE N (M.done i (i+1)) (M.fe a b l)) wz:=hM2;clear hM hS hqe;go_wp2
  go_loopw [12] (fun vk wq=>∃ k:Nat,i+1<=k/\k<=N/\vk=.int .i64 k/\Hid (∀ j,i<=j->j<k->(M.ent a b l i j).isSome=true)/\Hid (dg w N a b x1 x2 x3 pb (M.dE N (M.done i k) (M.fe a b l)) wq)) (fun vk _=>N - (intOf vk).toNat)
  case atStart=>exact ⟨i+1,DF _,by omega,by go_num,DB (fun j h1 h2=>by obtain rfl:j=i:=(by omega);exact hsm.out),DB hM2⟩
  case round=>
  clear hM2;obtain ⟨k,hk1,hk2,rfl,EB,hM⟩:=hrel
  by_cases hlt2:k<N
  ·obtain ⟨y,hy⟩:∃ y,l[k]?=some y:=⟨_,List.getElem?_eq_getElem (by have:=hN.out;omega)⟩
   have B:=hM.out.2.2.2;obtain ⟨d0,d1,d2⟩:=(hpt.out.below B) k y hy;have hpy:=hp.out y (List.mem_of_getElem? hy);have he:=M.pm (a:=a) (b:=b) hx.out hy hk1;clear hy;obtain ⟨y1,y2,y3⟩:=y;simp only [] at d0 d1 d2 hpy he
   have PP:=fun W=>uS a b x1 x2 x3 y1 y2 y3 W hg hpx hpy
   generalize M.dN a b x1 x2 x3 y1 y2 y3=ss at *;have hni:=hno.out i k (by have:=hN.out;omega) (by have:=hN.out;omega);rw [he] at hni;have C:=hM.out.2.1;have Z:=hM.out.2.2.1.2;have hgs:=hM.out.1.size (by omega)
   have hkk:((k:Nat):Int)<(N:Int):=by omega
   have hlt3:i<k:=hk1
   obtain ⟨q1,e1⟩:∃ x,Hid (M.DQ ss=x):=⟨_,DB rfl⟩
   obtain ⟨q2,e2⟩:∃ x,Hid (M.DZ ss=x):=⟨_,DB rfl⟩
   obtain ⟨fs,e5⟩:∃ x,Hid (ss.isSome=x):=⟨_,DB rfl⟩
   rw [e1.out,e2.out,e5.out] at PP;replace PP:=DB PP
   go_upto_region 17 with fail
   refine Rg.Ak 10 11 74 #[(0:Int),(0:Int)] #[q1,q2] [.is (.agg #[a,b]),.is (.agg #[x1,x2,x3]),.is (.slice (some ⟨g,o_,none⟩) N cap),.is (.int .i64 ((k:Nat):Int)),.is (.pointer (some ⟨g,o_+k*3,none⟩)),.is (.agg #[y1,y2,y3]),.is (.tuple #[.agg #[q1,q2],fs]),.is (.tuple #[.agg #[q1,q2],fs]),.is (.agg #[q1,q2]),.is fs,.is (undef),.is (undef),.is fs] (by kernel_rfl) (by kernel_rfl) (by kernel_rfl) (fun j h1 h2=>match j,h1,h2 with | 0,h1,h2=>rfl | 1,h1,h2=>rfl | 2,h1,h2=>rfl | 3,h1,h2=>rfl | 4,h1,h2=>rfl | 5,h1,h2=>rfl | 6,h1,h2=>rfl | 7,h1,h2=>rfl | 8,h1,h2=>rfl | 9,h1,h2=>rfl | 10,h1,h2=>absurd rfl h1 | 11,h1,h2=>absurd rfl h2 | 12,h1,h2=>rfl | n+13,_,_=>rfl) (by decide) ⟨?_,?_,?_,?_,?_,?_,?_,?_,?_,?_,?_,?_,?_,trivial⟩ ?_
   ·unfold Rg.bS
    rw [if_neg (by decide),if_neg (by decide)];intro zZ w_ hB hr;have e2:zZ.tmps[2]?=some (.pointer (some ⟨w.heap.size,0,none⟩)):=hr 2 (by decide);have k0:=aE hB C.box.c0;have k1:=aE hB C.box.c1;exact Rg.aW rfl (by go_simp)
   ·unfold Rg.bS
    rw [if_neg (by decide),if_neg (by decide)];intro zZ w_ hB hr;have e9:zZ.tmps[9]?=some (.pointer (some ⟨pb,0,none⟩)):=hr 9 (by decide);have k0:=aE hB Z.aO.1;have k1:=aE hB Z.aO.2.1;have k2:=aE hB Z.aO.2.2;exact Rg.aW rfl (by go_simp)
   ·unfold Rg.bS
    rw [if_neg (by decide),if_neg (by decide)];intro zZ w_ hB hr;have e1:zZ.tmps[1]?=some (.slice (some ⟨g,o_,none⟩) N cap):=hr 1 (by decide);exact Rg.aW rfl (by go_simp)
   ·unfold Rg.bS
    rw [if_neg (by decide),if_neg (by decide)];intro zZ w_ hB hr;have e12:zZ.tmps[12]?=some (.int .i64 ((k:Nat):Int)):=hr 12 (by decide);exact Rg.aW rfl (by go_simp)
   ·unfold Rg.bS
    rw [if_neg (by decide),if_neg (by decide)];intro zZ w_ hB hr;have e63:=Rg.l_ (hr 63 (by decide));have e64:=Rg.l_ (hr 64 (by decide));exact Rg.aW rfl (by first | (go_simp;done) | (go_simp;omega))
   ·unfold Rg.bS
    rw [if_neg (by decide),if_neg (by decide)];intro zZ w_ hB hr;have e65:=Rg.l_ (hr 65 (by decide));have k0:=aE hB d0;have k1:=aE hB d1;have k2:=aE hB d2;exact Rg.aW rfl (by first | (go_simp;done))
   ·unfold Rg.bS
    rw [if_neg (by decide),if_neg (by decide)];intro zZ w_ hB hr;have e61:=Rg.l_ (hr 61 (by decide));have e62:=Rg.l_ (hr 62 (by decide));have e66:=Rg.l_ (hr 66 (by decide));have ef:=Rg.ef zZ;exact Rg.bV rfl (by go_simp) (PP.out _)
   ·unfold Rg.bS
    rw [if_neg (by decide),if_neg (by decide)];intro zZ w_ hB hr;have e67:=Rg.l_ (hr 67 (by decide));exact Rg.aW rfl (by go_simp)
   ·unfold Rg.bS
    rw [if_neg (by decide),if_neg (by decide)];intro zZ w_ hB hr;have e60:=Rg.l_ (hr 60 (by decide));exact Rg.aW rfl (by go_simp)
   ·unfold Rg.bS
    rw [if_neg (by decide),if_neg (by decide)];intro zZ w_ hB hr;have e60:=Rg.l_ (hr 60 (by decide));exact Rg.aW rfl (by go_simp)
   ·unfold Rg.bS
    rw [if_pos rfl];intro zZ w_;exact Rg.nJ rfl (by first | (go_simp;done) | (go_simp;rfl))
   ·unfold Rg.bS
    rw [if_neg (by decide),if_pos rfl];intro zZ w_ h_ hh hn hr;have e13:zZ.tmps[13]?=some (.pointer (some ⟨h_,0,none⟩)):=hr 13 (by decide);have e68:=Rg.l_ (hr 68 (by decide));have ⟨y0,y1,x0,x1,_⟩:=hn.box;refine ⟨rfl,?_⟩;unfold Oper.wp;go_simp
    exact ⟨aG.set2 hn _ _,DD (DD (DE _ _) hh _) hh _⟩
   ·unfold Rg.bS
    rw [if_neg (by decide),if_neg (by decide)];intro zZ w_ hB hr;have e69:=Rg.l_ (hr 69 (by decide));exact Rg.aW rfl (by go_simp)
   intro vals wz h_ hh hn Dj hB hv;have Et:vals 12=.bool fs:=hv 12 (by decide) (by decide) (by decide);simp only [Rg.bF,Rg.fill,Act.put,Nat.reduceAdd];clear hv;simp only [Dj,Et];clear Dj Et
   cases ss with
   | none=>
    have hfin:=DB (hni rfl);have hfr:=DB (hrn.out hfin.out);obtain rfl:false=fs:=e5.out;clear hni hno hrn he e1 e2 e5;go_wp2;go_ret2;exact ⟨_,by rw [hfin.out];rfl,by rw [hfr.out];exact eI.nil _ _,d_ B hB⟩
   | some q=>
   have hqe:M.fe a b l i k=q:=by unfold M.fe;rw [he];rfl
   have hqe:=DB hqe;have Qq:=DB (show (M.ent a b l i k).isSome=true by rw [he];rfl);obtain ⟨q3,q4⟩:=q;obtain rfl:q1=q3:=e1.out.symm;obtain rfl:q2=q4:=e2.out.symm;obtain rfl:true=fs:=e5.out;clear hni he e1 e2 e5;have hM2:=DB (hM.out.below hB);have hS:=DB (show fV w N h_ (q1,q2) wz from ⟨by omega,hn⟩);clear hn hB hM d0 d1 d2 PP C Z B
   go_upto_region 20 with fail
   have hkk4:((k:Nat):Int)<=4:=by omega
   refine Rg.Am (fun n W=>dg w N a b x1 x2 x3 pb (M.dE N (M.C8 i k n) (M.fe a b l)) W/\fV w N h_ (q1,q2) W) [13,15] [.slice (some ⟨w.heap.size+1,0,none⟩) N N,.int .i64 ((i:Nat):Int),.pointer (some ⟨w.heap.size+1,i,none⟩),.slice (some ⟨w.heap.size+1+1+i,0,none⟩) N N,.int .i64 ((k:Nat):Int),.slice (some ⟨w.heap.size+1,0,none⟩) N N,.int .i64 ((k:Nat):Int),.pointer (some ⟨w.heap.size+1,k,none⟩),.slice (some ⟨w.heap.size+1+1+k,0,none⟩) N N,.int .i64 ((i:Nat):Int),.agg #[q1,q2],.agg #[q1,q2],.pointer (some ⟨w.heap.size+1+1+i,k*2,none⟩),undef,.pointer (some ⟨w.heap.size+1+1+k,i*2,none⟩),undef] (by kernel_rfl) (by kernel_rfl) (by kernel_rfl) (by decide) (⟨hM2.out.below (DE _ wz).drew,hS.out.below (DE _ wz).drew⟩) ⟨?_,?_,?_,?_,?_,?_,?_,?_,?_,?_,?_,?_,?_,?_,?_,?_,trivial⟩ ?_
   ·unfold Rg.be
    rw [if_neg (by decide)];intro zZ w_ n_ D8 hJ hr;refine ⟨rfl,?_⟩;have e6:zZ.tmps[6]?=some (.slice (some ⟨w.heap.size+1,0,none⟩) N N):=hr 6 (by decide);go_simp
   ·unfold Rg.be
    rw [if_neg (by decide)];intro zZ w_ n_ D8 hJ hr;refine ⟨rfl,?_⟩;have e8:zZ.tmps[8]?=some (.int .i64 ((i:Nat):Int)):=hr 8 (by decide);go_simp
   ·unfold Rg.be
    rw [if_neg (by decide)];intro zZ w_ n_ D8 hJ hr;refine ⟨rfl,?_⟩;have e72:zZ.tmps[72]?=some (.slice (some ⟨w.heap.size+1,0,none⟩) N N):=hr 72 (by decide);have e73:zZ.tmps[73]?=some (.int .i64 ((i:Nat):Int)):=hr 73 (by decide)
    have FA:((i:Nat):Int)<(N:Int):=by omega
    first | (go_simp;done) | (go_simp;omega)
   ·unfold Rg.be
    rw [if_neg (by decide)];intro zZ w_ n_ D8 hJ hr;refine ⟨rfl,?_⟩;have e74:zZ.tmps[74]?=some (.pointer (some ⟨w.heap.size+1,i,none⟩)):=hr 74 (by decide);have hr_:=eW.row hJ.1.1 (i:=i) (by omega)
    first | (go_simp;done)
   ·unfold Rg.be
    rw [if_neg (by decide)];intro zZ w_ n_ D8 hJ hr;refine ⟨rfl,?_⟩;have e12:zZ.tmps[12]?=some (.int .i64 ((k:Nat):Int)):=hr 12 (by decide);go_simp
   ·unfold Rg.be
    rw [if_neg (by decide)];intro zZ w_ n_ D8 hJ hr;refine ⟨rfl,?_⟩;have e6:zZ.tmps[6]?=some (.slice (some ⟨w.heap.size+1,0,none⟩) N N):=hr 6 (by decide);go_simp
   ·unfold Rg.be
    rw [if_neg (by decide)];intro zZ w_ n_ D8 hJ hr;refine ⟨rfl,?_⟩;have e12:zZ.tmps[12]?=some (.int .i64 ((k:Nat):Int)):=hr 12 (by decide);go_simp
   ·unfold Rg.be
    rw [if_neg (by decide)];intro zZ w_ n_ D8 hJ hr;refine ⟨rfl,?_⟩;have e77:zZ.tmps[77]?=some (.slice (some ⟨w.heap.size+1,0,none⟩) N N):=hr 77 (by decide);have e78:zZ.tmps[78]?=some (.int .i64 ((k:Nat):Int)):=hr 78 (by decide)
    have FA:((k:Nat):Int)<(N:Int):=by omega
    first | (go_simp;done) | (go_simp;omega)
   ·unfold Rg.be
    rw [if_neg (by decide)];intro zZ w_ n_ D8 hJ hr;refine ⟨rfl,?_⟩;have e79:zZ.tmps[79]?=some (.pointer (some ⟨w.heap.size+1,k,none⟩)):=hr 79 (by decide);have hr_:=eW.row hJ.1.1 (i:=k) (by omega)
    first | (go_simp;done)
   ·unfold Rg.be
    rw [if_neg (by decide)];intro zZ w_ n_ D8 hJ hr;refine ⟨rfl,?_⟩;have e8:zZ.tmps[8]?=some (.int .i64 ((i:Nat):Int)):=hr 8 (by decide);go_simp
   ·unfold Rg.be
    rw [if_neg (by decide)];intro zZ w_ n_ D8 hJ hr;refine ⟨rfl,?_⟩;have e13:zZ.tmps[13]?=some (.pointer (some ⟨h_,0,none⟩)):=hr 13 (by decide);have k0:=hJ.2.2.box.c0;have k1:=hJ.2.2.box.c1;go_simp
   ·unfold Rg.be
    rw [if_neg (by decide)];intro zZ w_ n_ D8 hJ hr;refine ⟨rfl,?_⟩;have e13:zZ.tmps[13]?=some (.pointer (some ⟨h_,0,none⟩)):=hr 13 (by decide);have k0:=hJ.2.2.box.c0;have k1:=hJ.2.2.box.c1;go_simp
   ·unfold Rg.be
    rw [if_neg (by decide)];intro zZ w_ n_ D8 hJ hr;refine ⟨rfl,?_⟩;have e75:zZ.tmps[75]?=some (.slice (some ⟨w.heap.size+1+1+i,0,none⟩) N N):=hr 75 (by decide);have e76:zZ.tmps[76]?=some (.int .i64 ((k:Nat):Int)):=hr 76 (by decide)
    have FA:((k:Nat):Int)<(N:Int):=by omega
    first | (go_simp;done) | (go_simp;omega)
   ·unfold Rg.be
    rw [if_pos (by decide)];intro zZ w_ hJ hr;have e82:zZ.tmps[82]?=some (.agg #[q1,q2]):=hr 82 (by decide);have e84:zZ.tmps[84]?=some (.pointer (some ⟨w.heap.size+1+1+i,k*2,none⟩)):=hr 84 (by decide);refine ⟨rfl,?_⟩;obtain ⟨FU,IV⟩:=hJ;have FU:dg w N a b x1 x2 x3 pb (M.dE N (M.done i k) (M.fe a b l)) w_:=FU;have ⟨y0,y1,Ii,EX,xl_⟩:=eW.cells FU.1 (i:=i) (j:=k) (M.de _ _ (by omega)) (M.eV _ _ (by omega))
    have FA:((k:Nat):Int)<(N:Int):=by omega
    have FT:=dg.put FU (i:=i) (j:=k) (q:=(q1,q2)) (rows':=M.dE N (M.half i k) (M.fe a b l)) (M.de _ _ (by omega)) (by omega) (by rw [←hqe.out];exact M.zg _ (by omega) (by omega));have G6:=fV.put IV (i:=i) (j1:=k*2) (j2:=k*2+1) (u:=.int .i64 q1) (v:=.int .i64 q2) (by omega);clear FU IV;unfold Oper.wp;go_simp
    all_goals first | exact FT | exact ⟨FT,G6⟩
   ·unfold Rg.be
    rw [if_neg (by decide)];intro zZ w_ n_ D8 hJ hr;refine ⟨rfl,?_⟩;have e80:zZ.tmps[80]?=some (.slice (some ⟨w.heap.size+1+1+k,0,none⟩) N N):=hr 80 (by decide);have e81:zZ.tmps[81]?=some (.int .i64 ((i:Nat):Int)):=hr 81 (by decide)
    have FA:((i:Nat):Int)<(N:Int):=by omega
    first | (go_simp;done) | (go_simp;omega)
   ·unfold Rg.be
    rw [if_pos (by decide)];intro zZ w_ hJ hr;have e83:zZ.tmps[83]?=some (.agg #[q1,q2]):=hr 83 (by decide);have e85:zZ.tmps[85]?=some (.pointer (some ⟨w.heap.size+1+1+k,i*2,none⟩)):=hr 85 (by decide);refine ⟨rfl,?_⟩;obtain ⟨FU,IV⟩:=hJ;have FU:dg w N a b x1 x2 x3 pb (M.dE N (M.half i k) (M.fe a b l)) w_:=FU;have ⟨y0,y1,Ii,EX,xl_⟩:=eW.cells FU.1 (i:=k) (j:=i) (M.de _ _ (by omega)) (M.eV _ _ (by omega))
    have FA:((i:Nat):Int)<(N:Int):=by omega
    have FT:=dg.put FU (i:=k) (j:=i) (q:=(q1,q2)) (rows':=M.dE N (M.done i (k+1)) (M.fe a b l)) (M.de _ _ (by omega)) (by omega) (by rw [←hqe.out];exact M.zh _ (M.BL _ _ _ _ _) (by omega) (by omega));have G6:=fV.put IV (i:=k) (j1:=i*2) (j2:=i*2+1) (u:=.int .i64 q1) (v:=.int .i64 q2) (by omega);clear FU IV;unfold Oper.wp;go_simp
    all_goals first | exact FT | exact ⟨FT,G6⟩
   intro vals wy hJ hv;simp only [Rg.bF,Rg.fill,Act.put,Nat.reduceAdd];clear hv;obtain ⟨FS,-⟩:=hJ;have FS:dg w N a b x1 x2 x3 pb (M.dE N (M.done i (k+1)) (M.fe a b l)) wy:=FS;clear hM2 hS hqe;go_wp2
   go_roundw
   case rel=>exact ⟨k+1,by omega,by omega,by go_num,DB (fun j h1 h2=>by
    rcases Nat.lt_or_ge j k with h3 | h3
    ·exact EB.out j h1 h3
    obtain rfl:j=k:=by omega
    exact Qq.out),DB FS⟩
   case measure=>simp [intOf] <;> omega
  obtain rfl:N=k:=by omega
  have FS:=hM.out;have hd:=M.tz (n:=N) (i:=i) (M.fe a b l);have hG3:=FS.1;rw [hd] at hG3;have hG3:=DB hG3;clear hd
  have hal:∀ i',i'<i+1->∀ j,j<l.length->(M.ent a b l i' j).isSome=true:=fun i' h j hj=>by
   rcases Nat.lt_or_ge i' i with q | q
   ·exact hall.out i' q j hj
   obtain rfl:i'=i:=by omega
   rcases Nat.lt_or_ge j i' with q2 | q2
   ·rw [M.kI];exact hall.out j q2 i' (by have:=hN.out;omega)
   exact EB.out j q2 (by have:=hN.out;omega)
  have hal:=DB hal;have C3:=FS.2.1;have B3:=FS.2.2.2;clear FS hM;go_wp2
  go_roundw
  case rel=>exact ⟨i+1,by omega,by go_num,hal,hG3,C3,B3⟩
  case measure=>simp [intOf] <;> omega
 obtain rfl:N=i:=by omega
 have hyes:=DB (M.sv (a:=a) (b:=b) (l:=l) (fun i' h=>hall.out i' (by have:=hN.out;omega)));have hrows:=DB (M.uR hyes.out);have hG4:=hG.out.mat (base:=w.heap.size) (by omega) (by omega);have hG4:=DB hG4;clear hG;go_wp2;go_ret2;exact ⟨_,by rw [hyes.out];rfl,by rw [hrows.out,hN.out];exact hG4.out,B⟩
theorem Rw.From.below {α:Type} {E:Rw.Enc α} {w w':World} {A:Option Addr} {ys:List α} (h:Rw.From E w A ys) (hb:Below w.heap.size w w'):Rw.From E w' A ys:=fun j u hu=>by
 obtain ⟨ad,e,hc⟩:=h j u hu;exact ⟨ad,e,aE hb hc⟩
theorem yp (n:Nat) (h1:1<=n) (h2:n<=4) (w:World) :
  Calls Tryz.prog 133 #[.slice none 0 0,.int .i64 (n:Int)] w fun e w'=>∃ v,e=.returned v/\Rw.Own EP w' w.heap.size v []/\Below w.heap.size w w':=by
 obtain ⟨i0,hi,hz0,hz1,hz2⟩:=info_parts wh;have hc:=Any8.slices_Grow_grow Tryz.growP i0 _ hi hz0 (by omega) none 0 0 n [] w (DF _) (by omega) (by rw [hz2];omega) (by omega) (by simp) (fun _=>rfl) (fun a h=>by cases h);refine Calls.mono hc ?_;rintro e w' ⟨rfl,rfl⟩;refine ⟨_,rfl,⟨rfl,Or.inr ⟨w.heap.size,_,_,rfl,DF _,heap_alloc_new w.drew _,Nat.zero_le _,grownCap_le_maxLen w _ 0 _ (by unfold maxLen;omega),?_,rfl⟩⟩,((DE _ w).drew).alloc (DF _) _⟩;have hG:=grownCap_ge w (0+n) 0 (Tryz.growP_ren.t 25);have hk:EP.k=2:=rfl;simp only [Array.size_append,size_zeroCells,hk];simp only [List.size_toArray,List.length_nil,Value.cells]
 show 0+(0+n - 0)*2+(_ - (0+n))*2=_*2
 omega
theorem vY (h n1 c1 n2 c2:Nat) (a1 a2:Option Addr) (r1 r2:List (Int × Int)) (w:World) (k0:w.cell? ⟨h,0,none⟩=some (.slice a1 n1 c1)) (k1:w.cell? ⟨h,1,none⟩=some (.slice a2 n2 c2))
  (hn1:r1.length=n1) (hn2:r2.length=n2) (F1:Rw.From EP w a1 r1) (F2:Rw.From EP w a2 r2) (h1:1<=n1+n2) (h2:n1+n2<=4) :
  Calls Tryz.prog 112 #[.slice (some ⟨h,0,none⟩) 2 2] w fun e w'=>∃ v,e=.returned v/\Rw.Own EP w' w.heap.size v (r1 ++ r2)/\Below w.heap.size w w':=by
 have PG:=DB fun W=>yp (n1+n2) h1 h2 W
 have F1:=DB F1;have F2:=DB F2;have hn1:=DB hn1;have hn2:=DB hn2
 have i1:(n1:Int)<=4:=by omega
 have i2:(n2:Int)<=4:=by omega
 go_enter Tryz.func112,Tryz.ntmps112
 go_wp2
 go_loopw [3,11] (fun vs vk wr=>w=wr/\((vk=.int .i64 0/\vs=.int .i64 0)∨(vk=.int .i64 1/\vs=.int .i64 (n1:Int))∨(vk=.int .i64 2/\vs=.int .i64 ((n1:Int)+n2)))) (fun _ vk _=>2 - (intOf vk).toNat)
 case atStart=>exact ⟨rfl,Or.inl ⟨rfl,rfl⟩⟩
 case round=>
 obtain ⟨rfl,hrel⟩:=hrel
 rcases hrel with ⟨rfl,rfl⟩ | ⟨rfl,rfl⟩ | ⟨rfl,rfl⟩
 ·go_wp2
  go_roundw
  case rel=>exact ⟨trivial,Or.inr (Or.inl ⟨rfl,by go_num⟩)⟩
  case measure=>simp [intOf]
 ·go_wp2
  go_roundw
  case rel=>exact ⟨trivial,Or.inr (Or.inr ⟨rfl,by go_num⟩)⟩
  case measure=>simp [intOf]
 replace PG:=DB (fun W x (hx:x=((n1:Int)+n2))=>(by subst hx;exact PG.out W:Calls Tryz.prog 133 #[.slice none 0 0,x] W fun e w'=>∃ v,e=.returned v/\Rw.Own EP w' W.heap.size v []/\Below W.heap.size W w'))
 go_wp2_with (go_at_call 133;refine (PG.out _ _ (by omega)).mono ?_;rintro e w4 ⟨v4,rfl,DS,hb4⟩)
 go_loopw [6,27] (fun vo vk wq=>Below w.heap.size w wq/\((vk=.int .i64 0/\Hid (Rw.Own EP wq w.heap.size vo []))∨(vk=.int .i64 1/\Hid (Rw.Own EP wq w.heap.size vo r1))∨(vk=.int .i64 2/\Hid (Rw.Own EP wq w.heap.size vo (r1 ++ r2))))) (fun _ vk _=>2 - (intOf vk).toNat)
 case atStart=>exact ⟨hb4,Or.inl ⟨rfl,DB DS⟩⟩
 case round=>
 clear hb4 DS;obtain ⟨B,hrel⟩:=hrel;have y0:=aE B k0;have y1:=aE B k1
 rcases hrel with ⟨rfl,ho⟩ | ⟨rfl,ho⟩ | ⟨rfl,ho⟩
 ·go_wp2_with (at_builtin;refine Rw.push AW (W:=w) w.heap.size r1 [] _ a1 n1 c1 hn1.out rfl (.tmp 31) (.tmp 32) rfl rfl rfl (F1.out.below B) ho.out B B.size (by have:=hn1.out;simp only [List.length_nil];omega) ?_;intro v6 w6 hown6 hb6)
  go_roundw
  case rel=>exact ⟨hb6,Or.inr (Or.inl ⟨rfl,DB hown6⟩)⟩
  case measure=>simp [intOf]
 ·go_wp2_with (at_builtin;refine Rw.push AW (W:=w) w.heap.size r2 r1 _ a2 n2 c2 hn2.out rfl (.tmp 31) (.tmp 32) rfl rfl rfl (F2.out.below B) ho.out B B.size (by have:=hn1.out;have:=hn2.out;omega) ?_;intro v6 w6 hown6 hb6)
  go_roundw
  case rel=>exact ⟨hb6,Or.inr (Or.inr ⟨rfl,DB hown6⟩)⟩
  case measure=>simp [intOf]
 go_wp2;go_ret;exact ⟨_,rfl,ho.out,B⟩
theorem da {W:World} {base g i k n:Nat} {t T:TypeId} {v:Value} {vs:List Value} {ys:Array Value} (h:W.ownsRow base t k v n vs) (hv:aG W g T ys) (hT:T≠t) (x:Value):(W.setCell ⟨g,i,none⟩ x).ownsRow base t k v n vs:=by
 have hap:v.ownBlock≠some g:=by
  intro e
  rcases h.2 with ⟨rfl,-⟩ | ⟨g1,c1,GT,rfl,-,GX,-⟩
  ·cases e
  simp only [Value.ownBlock,Option.some.injEq] at e;subst e;unfold aG at hv;rw [GX] at hv
  injection hv with hv
  injection hv with _ h2
  exact hT h2.symm
 refine World.ownsRow.kept (row:=some g) h ⟨rfl,rfl,rfl,by simp [go_sem],fun k hk hne=>?_⟩ (Or.inr hap);rw [World.setCell]
 show (W.heap.modify g _)[k]?=_
 rw [Array.getElem?_modify,if_neg (fun e=>hne (by rw [e]))]
theorem mH {w W:World} (ty:TypeId) (base:Nat) (u:Value) (r:List (Int × Int)) (vs:List Value) (rows:List (List (Int × Int))) (v:Value)
  (hown:bQ w base v vs rows) (hu:Rw.Own EP w base u r) (hnew:∀ g,u.ownBlock=some g->∀ z ∈ vs,z.ownBlock≠some g)
  (hW:Below base W w) (hB:base<=w.heap.size) (hl:rows.length<=1000000000) :
  ∃ v' w',(Builtin.append_ #[98,98] ty #[v,.slice (some ⟨w.heap.size,0,none⟩) 1 1]).run Tryz.prog (w.alloc (.cells #[u] 130))=.ok v' w'/\bQ w' base v' (vs ++ [u]) (rows ++ [r])/\Below base W w':=by
 obtain ⟨i0,hi,hz0,hz1,hz2⟩:=info_parts wj;obtain ⟨h1,h2,h3,h4⟩:=hown
 obtain ⟨v',w',q1,k1,k2,-,-⟩:=run_append_own_at (P:=Tryz.prog) (w.alloc (.cells #[u] 130)) base 98 ty 130 i0 (.slice none 0 0) 1 24 Tryz.underlying98 hi hz0 hz1 hz2 rfl (by decide) v rows.length vs (h1.alloc _) ⟨w.heap.size,0,none⟩ 1 1 [u] rfl (fun j z hz=>by
  have hadd:(⟨w.heap.size,0,none⟩:Addr).add j=⟨w.heap.size,j,none⟩:=by unfold Addr.add;split <;> simp_all
  rw [hadd,World.cell?_alloc_at _ _ _ _ rfl]
  simpa using hz) (fun z hz=>by simp only [List.mem_singleton] at hz;subst hz;exact Rw.oW hu) (by unfold maxLen;omega) (by omega) (by rw [DC];omega)
 refine ⟨v',w',q1,⟨by rw [List.length_append];exact k1,by rw [List.length_append,List.length_append,h2];rfl,?_,?_⟩,((hW.alloc hB _).grown k2 (by rw [DC];omega) fun k hk=>(h1.lt k hk).1)⟩
 ·have hal:∀ {z:Value} {q:List (Int × Int)},Rw.Own EP w base z q->Rw.Own EP w' base z q:=by
   intro z q hz;have hz':Rw.Own EP (w.alloc (.cells #[u] 130)) base z q:=World.ownsRow.alloc hz _
   refine hz'.kept k2 fun g hg=>?_
   exact iC (t1:=74) (t2:=130) hz' (World.ownsRow.alloc h1 _) (Ne.symm neP) g hg
  intro i z q hz hq
  by_cases hlt:i<vs.length
  ·rw [List.getElem?_append_left hlt] at hz
   rw [List.getElem?_append_left (by omega)] at hq;exact hal (h3 i z q hz hq)
  rw [List.getElem?_append_right (by omega)] at hz;rw [List.getElem?_append_right (by omega),←h2] at hq
  have hi0:i - vs.length=0:=by
   rcases Nat.eq_zero_or_pos (i - vs.length) with e | e
   ·exact e
   rw [List.getElem?_eq_none (by simp;omega)] at hz;cases hz
  rw [hi0] at hz hq;simp only [List.getElem?_cons_zero,Option.some.injEq] at hz hq;subst hz hq;exact hal hu
 rw [List.pairwise_append];refine ⟨h4,by simp,fun z hz z' hz' g hg hg'=>?_⟩;simp only [List.mem_singleton] at hz';subst hz';exact hnew g hg' z hz hg
theorem bQ.dn {W:World} {base g i:Nat} {T:TypeId} {v:Value} {vs:List Value} {rows:List (List (Int × Int))} {ys:Array Value} (h:bQ W base v vs rows) (hv:aG W g T ys) (hT:T≠74) (G7:T≠130) (x:Value):bQ (W.setCell ⟨g,i,none⟩ x) base v vs rows:=by
 obtain ⟨h1,h2,h3,h4⟩:=h;exact ⟨da h1 hv G7 x,h2,fun i u r hu hr=>da (h3 i u r hu hr) hv hT x,h4⟩
theorem eI.dn {W:World} {base g i:Nat} {T:TypeId} {v:Value} {rows:List (List (Int × Int))} {ys:Array Value} (h:eI W base v rows) (hv:aG W g T ys) (hT:T≠74) (G7:T≠130) (x:Value):eI (W.setCell ⟨g,i,none⟩ x) base v rows:=h.elim fun vs k=>⟨vs,k.dn hv hT G7 x⟩
theorem bQ.fresh {w w':World} {base b2:Nat} {v u:Value} {vs:List Value} {rows:List (List (Int × Int))} {r:List (Int × Int)} (h:bQ w base v vs rows) (hu:Rw.Own EP w' b2 u r) (hb:w.heap.size<=b2):∀ g,u.ownBlock=some g->∀ z ∈ vs,z.ownBlock≠some g:=fun g hg z hz e=>by
 have h1:=(h.lt z hz g e).2;have h2:=(hu.lt g hg).1;omega
theorem Rw.From.cut {α:Type} {E:Rw.Enc α} {w:World} {g:Nat} {r:List α} (h:Rw.From E w (some ⟨g,0,none⟩) r) (c:Nat):Rw.From E w (some ⟨g,0,none⟩) (r.take c):=fun j u hu=>by
 rw [Rw.jR,List.getElem?_take] at hu
 split at hu
 ·exact h j u hu
 cases hu
theorem Rw.From.rest {α:Type} {E:Rw.Enc α} {w:World} {g:Nat} {r:List α} (h:Rw.From E w (some ⟨g,0,none⟩) r) (c:Nat):Rw.From E w (some ⟨g,c*E.k,none⟩) (r.drop c):=fun j u hu=>by
 rw [Rw.uA,List.getElem?_drop] at hu;obtain ⟨ad,e,hc⟩:=h _ u hu;refine ⟨_,rfl,?_⟩;have:=Option.some.inj e;subst this
 have K4:∀ b i j:Nat,(⟨b,i,none⟩:Addr).add j=⟨b,i+j,none⟩:=fun b i j=>by unfold Addr.add;split <;> simp_all
 rw [K4] at hc ⊢;rw [Nat.zero_add] at hc;exact hc
theorem Rw.From.tI {α:Type} {E:Rw.Enc α} {w:World} {g:Nat} {r:List α} (h:Rw.From E w (some ⟨g,0,none⟩) r) (c cap:Nat) (hl:r.length<=cap):Rw.From E w (if cap=c then some ⟨g,0,none⟩ else some ⟨g,c*E.k,none⟩) (r.drop c):=by
 by_cases hc:cap=c
 ·rw [if_pos hc,List.drop_eq_nil_of_le (by omega)]
  exact Rw.From.nil E w _
 rw [if_neg hc];exact h.rest c
theorem mG {w W:World} (ty:TypeId) (base:Nat) (u:Value) (r:List (Int × Int × Int × Int)) (vs:List Value) (rows:List (List (Int × Int × Int × Int))) (v:Value)
  (hown:bi w base v vs rows) (hu:Rw.Own EN w base u r) (hnew:∀ g,u.ownBlock=some g->∀ z ∈ vs,z.ownBlock≠some g)
  (hW:Below base W w) (hB:base<=w.heap.size) (hl:rows.length<=1000000000) :
  ∃ v' w',(Builtin.append_ #[105,105] ty #[v,.slice (some ⟨w.heap.size,0,none⟩) 1 1]).run Tryz.prog (w.alloc (.cells #[u] 136))=.ok v' w'/\bi w' base v' (vs ++ [u]) (rows ++ [r])/\Below base W w':=by
 obtain ⟨i0,hi,hz0,hz1,hz2⟩:=info_parts wg;obtain ⟨h1,h2,h3,h4⟩:=hown
 obtain ⟨v',w',q1,k1,k2,-,-⟩:=run_append_own_at (P:=Tryz.prog) (w.alloc (.cells #[u] 136)) base 105 ty 136 i0 (.slice none 0 0) 1 24 Tryz.underlying105 hi hz0 hz1 hz2 rfl (by decide) v rows.length vs (h1.alloc _) ⟨w.heap.size,0,none⟩ 1 1 [u] rfl (fun j z hz=>by
  have hadd:(⟨w.heap.size,0,none⟩:Addr).add j=⟨w.heap.size,j,none⟩:=by unfold Addr.add;split <;> simp_all
  rw [hadd,World.cell?_alloc_at _ _ _ _ rfl]
  simpa using hz) (fun z hz=>by simp only [List.mem_singleton] at hz;subst hz;exact Rw.oW hu) (by unfold maxLen;omega) (by omega) (by rw [DC];omega)
 refine ⟨v',w',q1,⟨by rw [List.length_append];exact k1,by rw [List.length_append,List.length_append,h2];rfl,?_,?_⟩,((hW.alloc hB _).grown k2 (by rw [DC];omega) fun k hk=>(h1.lt k hk).1)⟩
 ·have hal:∀ {z:Value} {q:List (Int × Int × Int × Int)},Rw.Own EN w base z q->Rw.Own EN w' base z q:=by
   intro z q hz;have hz':Rw.Own EN (w.alloc (.cells #[u] 136)) base z q:=World.ownsRow.alloc hz _
   refine hz'.kept k2 fun g hg=>?_
   exact iC (t1:=78) (t2:=136) hz' (World.ownsRow.alloc h1 _) (Ne.symm neN) g hg
  intro i z q hz hq
  by_cases hlt:i<vs.length
  ·rw [List.getElem?_append_left hlt] at hz
   rw [List.getElem?_append_left (by omega)] at hq;exact hal (h3 i z q hz hq)
  rw [List.getElem?_append_right (by omega)] at hz;rw [List.getElem?_append_right (by omega),←h2] at hq
  have hi0:i - vs.length=0:=by
   rcases Nat.eq_zero_or_pos (i - vs.length) with e | e
   ·exact e
   rw [List.getElem?_eq_none (by simp;omega)] at hz;cases hz
  rw [hi0] at hz hq;simp only [List.getElem?_cons_zero,Option.some.injEq] at hz hq;subst hz hq;exact hal hu
 rw [List.pairwise_append];refine ⟨h4,by simp,fun z hz z' hz' g hg hg'=>?_⟩;simp only [List.mem_singleton] at hz';subst hz';exact hnew g hg' z hz hg
theorem bi.dn {W:World} {base g i:Nat} {T:TypeId} {v:Value} {vs:List Value} {rows:List (List (Int × Int × Int × Int))} {ys:Array Value} (h:bi W base v vs rows) (hv:aG W g T ys) (hT:T≠78) (G7:T≠136) (x:Value):bi (W.setCell ⟨g,i,none⟩ x) base v vs rows:=by
 obtain ⟨h1,h2,h3,h4⟩:=h;exact ⟨da h1 hv G7 x,h2,fun i u r hu hr=>da (h3 i u r hu hr) hv hT x,h4⟩
theorem df.dn {W:World} {base g i:Nat} {T:TypeId} {v:Value} {rows:List (List (Int × Int × Int × Int))} {ys:Array Value} (h:df W base v rows) (hv:aG W g T ys) (hT:T≠78) (G7:T≠136) (x:Value):df (W.setCell ⟨g,i,none⟩ x) base v rows:=h.elim fun vs k=>⟨vs,k.dn hv hT G7 x⟩
theorem bi.fresh {w w':World} {base b2:Nat} {v u:Value} {vs:List Value} {rows:List (List (Int × Int × Int × Int))} {r:List (Int × Int × Int × Int)} (h:bi w base v vs rows) (hu:Rw.Own EN w' b2 u r) (hb:w.heap.size<=b2):∀ g,u.ownBlock=some g->∀ z ∈ vs,z.ownBlock≠some g:=fun g hg z hz e=>by
 have h1:=(h.lt z hz g e).2;have h2:=(hu.lt g hg).1;omega
namespace M
def gP (ok:Bool) (n:Nat) (m:Dm) (c:Nat):Sp:=if c=0 then some (0,0) else gd ok (dS n m c)
def gO (ok:Bool) (n:Nat) (m:Dm):Sp:=if n=1 then cV 1 m else gd ok (cV n m)
theorem AA {ok:Bool} {n:Nat} {m:Dm} {c:Nat}:EI (gP ok n m c):=by
 unfold gP
 split
 ·intro p hp
  have:(0,0)=p:=Option.some.inj hp;subst this
  decide
 exact jZ (oP _)
theorem tS {ok:Bool} {n:Nat} {m:Dm} {c:Nat} (h:(ok && (dS n m c).isSome)=true):gP ok n m c=dS n m c:=by
 rw [Bool.and_eq_true] at h;unfold gP
 split
 ·rename_i hc;subst hc;rfl
 rw [h.1];rfl
theorem sR {ok:Bool} {n:Nat} {m:Dm} (h:(ok && (cV n m).isSome)=true):gO ok n m=cV n m:=by
 rw [Bool.and_eq_true] at h;unfold gO
 split
 ·rename_i hc;subst hc;rfl
 rw [h.1];rfl
theorem ye {ok:Bool} {n:Nat} {m:Dm} (h:Jk m):EI (gO ok n m):=by
 unfold gO
 split
 ·exact kN h 1
 exact jZ (kN h _)
theorem tw {ok fc f1:Bool} {n c:Nat} {m:Dm} {q:Int × Int} {u1 u2:Sp} (hfc:fc=(ok && (dS n m c).isSome)) (hf1:f1=(fc && (cV (n+1) (bW m c)).isSome)) (hu1:u1=gO fc (n+1) (bW m c)) (hq:(m.headD [])[c]?=some q) (hu2:u2=gd f1 (fI (some q) u1)) :
  gd u2.isSome (d9 (gP ok n m c) u2 c)=gP ok n m (c+1)/\(gd u2.isSome (d9 (gP ok n m c) u2 c)).isSome=(ok && (dS n m (c+1)).isSome):=by
 have e:gP ok n m (c+1)=gd ok (dS n m (c+1)):=if_neg (by omega)
 have key:gd u2.isSome (d9 (gP ok n m c) u2 c)=gd ok (dS n m (c+1)):=by
  rw [fo,hq]
  cases ok with
  | false=>
   have:f1=false:=by rw [hf1,hfc];rfl
   rw [hu2,this];rfl
  | true=>
  cases hS:dS n m c with
  | none=>
   have:f1=false:=by rw [hf1,hfc,hS];rfl
   rw [hu2,this,ie];rfl
  | some s=>
  cases hD:cV (n+1) (bW m c) with
  | none=>
   have:f1=false:=by rw [hf1,hD,Bool.and_comm];rfl
   have e2:fI (some q) none=none:=rfl;rw [hu2,this,e2,dR];rfl
  | some d=>
  have h1:fc=true:=by rw [hfc,hS];rfl
  have h2:f1=true:=by rw [hf1,h1,hD];rfl
  have h3:u1=some d:=by rw [hu1,sR (by rw [h1,hD];rfl),hD]
  have h4:gP true n m c=some s:=by rw [tS (by rw [hS];rfl),hS]
  rw [h4,hu2,h2,h3]
  show gd (fI (some q) (some d)).isSome (d9 (some s) (fI (some q) (some d)) c)=d9 (some s) (fI (some q) (some d)) c
  cases fI (some q) (some d) with
  | none=>rw [dR];rfl
  | some u=>rfl
 exact ⟨key.trans e.symm,by rw [key];cases ok <;> rfl⟩
theorem uk {ok:Bool} {n:Nat} {m:Dm} {c:Nat} (h:(ok && (dS n m c).isSome)=true):(gP ok n m c).isSome=true:=by
 rw [tS h];rw [Bool.and_eq_true] at h;exact h.2
theorem tu {ok:Bool} {n:Nat} {m:Dm} (h:(ok && (cV n m).isSome)=true):(gO ok n m).isSome=true:=by
 rw [sR h];rw [Bool.and_eq_true] at h;exact h.2
theorem yF {ok:Bool} {n:Nat} {m:Dm} (hm:square (n+2) m):gP ok n m (n+2)=gO ok (n+2) m/\(ok && (dS n m (n+2)).isSome)=(ok && (cV (n+2) m).isSome):=by
 have hl:(m.headD []).length=n+2:=by
  cases m with
  | nil=>have:=hm.1;simp only [List.length_nil] at this;omega
  | cons r m=>exact hm.2 r (List.mem_cons_self ..)
 have e:cV (n+2) m=dS n m (n+2):=by rw [f9,hl]
 unfold gP gO;rw [if_neg (by omega),if_neg (by omega),e];exact ⟨rfl,rfl⟩
theorem uM {m:Dm} {c i:Nat} {r:List (Int × Int)} (h:m[i+1]?=some r):(bW m c)[i]?=some (r.take c ++ r.drop (c+1)):=by
 unfold bW;rw [List.getElem?_map,List.getElem?_tail,h];rfl
theorem rR {m:Dm} {c n:Nat} (h:m.length=n+1):(bW m c).length=n:=by
 unfold bW;rw [List.length_map,List.length_tail,h];rfl
theorem jj {α:Type} {l:List α} {i:Nat} {x:α} (h:l[i]?=some x):l.take (i+1)=l.take i ++ [x]:=by
 rw [List.take_add_one,h];rfl
end M
theorem bQ.rowIs {w:World} {base:Nat} {v:Value} {vs:List Value} {rows:List (List (Int × Int))} (h:bQ w base v vs rows) {i:Nat} {r:List (Int × Int)} (hr:rows[i]?=some r) (hne:r≠[]) :
  ∃ (g2 cap2:Nat),vs[i]?=some (.slice (some ⟨g2,0,none⟩) r.length cap2)/\r.length<=cap2/\g2<w.heap.size:=by
 have hi:=(List.getElem?_eq_some_iff.1 hr).1;have hl:=h.2.1;have hu:vs[i]?=some (vs[i]'(by omega)):=List.getElem?_eq_getElem (by omega)
 rcases (h.2.2.1 i _ r hu hr).forms with ⟨-,h4⟩ | ⟨g2,cap2,e,hg,hg2,hc2,-⟩
 ·exact absurd h4 hne
 exact ⟨g2,cap2,by rw [hu,e],hc2,hg2⟩
theorem bQ.form {w:World} {base:Nat} {v:Value} {vs:List Value} {rows:List (List (Int × Int))} (h:bQ w base v vs rows) (hne:rows≠[]):∃ (g cap:Nat),v=.slice (some ⟨g,0,none⟩) rows.length cap/\rows.length<=cap/\cap<=9223372036854775807/\g<w.heap.size:=by
 rcases h.1.2 with ⟨-,h2⟩ | ⟨g,cap,cur,e,hg,hh,hc,hm,-⟩
 ·exact absurd (List.eq_nil_of_length_eq_zero h2) hne
 exact ⟨g,cap,e,hc,by unfold maxLen at hm;omega,(Array.getElem?_eq_some_iff.1 hh).1⟩
theorem bQ.jC {w:World} {base g n cap:Nat} {vs:List Value} {rows:List (List (Int × Int))} (h:bQ w base (.slice (some ⟨g,0,none⟩) n cap) vs rows) {i:Nat} {u:Value} (hu:vs[i]?=some u):w.cell? ⟨g,i,none⟩=some u:=by
 have hi:=(List.getElem?_eq_some_iff.1 hu).1;have hl:=h.2.1;have h1:=h.1
 rcases h1.2 with ⟨e,-⟩ | ⟨g1,c1,GT,e,-⟩
 ·cases e
 injection e with _ e2 _
 subst e2;exact (World.ownsRow.cellAt h1 i (by omega)).trans hu
theorem bQ.rowFrom {w:World} {base:Nat} {v:Value} {vs:List Value} {rows:List (List (Int × Int))} (h:bQ w base v vs rows) {i g2 cap2 n2:Nat} {r:List (Int × Int)} (hu:vs[i]?=some (.slice (some ⟨g2,0,none⟩) n2 cap2)) (hr:rows[i]?=some r):Rw.From EP w (some ⟨g2,0,none⟩) r:=by
 have ho:=h.2.2.1 i _ r hu hr
 rcases ho.forms with ⟨e,-⟩ | ⟨g3,O4,e,hg,hg3,hc3,-⟩
 ·cases e
 injection e with e1 e2 e3
 have:=ho.Af e2 (ho.lt g2 rfl).2 (DE _ w) r.length;rw [List.take_length] at this;exact this
theorem Rw.From.at2 {w:World} {g c:Nat} {r:List (Int × Int)} {q:Int × Int} (h:Rw.From EP w (some ⟨g,0,none⟩) r) (hq:r[c]?=some q):w.cell? ⟨g,c*2,none⟩=some (.int .i64 q.1)/\w.cell? ⟨g,c*2+1,none⟩=some (.int .i64 q.2):=by
 have hadd:∀ b i:Nat,(⟨b,0,none⟩:Addr).add i=⟨b,i,none⟩:=fun b i=>by unfold Addr.add;split <;> simp_all
 have hc:∀ (t:Nat) (u:Value),t<2->(EP.cells q)[t]?=some u->w.cell? ⟨g,c*2+t,none⟩=some u:=fun t u ht hu=>by
  obtain ⟨ad,e,hh⟩:=h (c*2+t) u ((Rw.flat_get EP r c t q hq ht).trans hu);have:=Option.some.inj e;subst this;rw [hadd] at hh;exact hh
 exact ⟨hc 0 _ (by decide) rfl,hc 1 _ (by decide) rfl⟩
theorem bQ.y8 {w w':World} {base g:Nat} {T:TypeId} {v x y:Value} {vs:List Value} {rows:List (List (Int × Int))} (h:bQ w base v vs rows) (K:aG w g T #[x]) (hT:T≠74) (G7:T≠130) (hb:Below w.heap.size (w.setCell ⟨g,0,none⟩ y) w'):bQ w' base v vs rows:=
 (h.dn K hT G7 y).below (bB hb)
theorem bQ.held {w1 w:World} {base g:Nat} {T:TypeId} {v x:Value} {vs:List Value} {rows:List (List (Int × Int))} (h:bQ w1 base v vs rows) (hH:Rg.Held w1 g w) (K:aG w1 g T #[x]) (hT:T≠74) (G7:T≠130):bQ w base v vs rows:=by
 have key:∀ {t:TypeId} {k n:Nat} {u:Value} {zs:List Value},w1.ownsRow base t k u n zs->T≠t->w.ownsRow base t k u n zs:=fun {t k n u zs} h ht=>by
  refine ⟨h.1,?_⟩
  rcases h.2 with h2 | ⟨g1,c1,GT,e,h3,h4,h5⟩
  ·exact Or.inl h2
  have hne:g1≠g:=fun e2=>by
   subst e2;unfold aG at K;rw [h4] at K
   injection K with K
   injection K with _ K2
   exact ht K2.symm
  exact Or.inr ⟨g1,c1,GT,e,h3,hH.2 g1 t GT hne h4,h5⟩
 obtain ⟨h1,h2,h3,h4⟩:=h;exact ⟨key h1 G7,h2,fun i u r hu hr=>key (h3 i u r hu hr) hT,h4⟩
def CF (n:Nat) (s1 s2:Value) (nr:List (Int × Int)) (b2:Nat) (rows:M.Dm) (w0 w2:World) (x8 x9 x10 RV RW:Value) (w:World):Prop:=match n with
 | 0=>Below w0.heap.size w0 w
 | 1=>∃ h,x8=.slice (some ⟨h,0,none⟩) 2 2/\w.cell? ⟨h,0,none⟩=some s1/\w.cell? ⟨h,1,none⟩=some s2/\Below w0.heap.size w0 w
 | 2=>Rw.Own EP w w0.heap.size x9 nr/\Below w0.heap.size w0 w
 | 3=>∃ w3,w=w3.alloc (.cells #[x9] 130)/\x10=.slice (some ⟨w3.heap.size,0,none⟩) 1 1/\Rw.Own EP w3 w0.heap.size x9 nr/\Below w0.heap.size w0 w3
 | 4=>eI w b2 RV (rows ++ [nr])/\Below b2 w2 w
 | _=>eI w b2 RW (rows ++ [nr])/\Below b2 w2 w
theorem CY (n:Nat):∀ (m:M.Dm) (v:Value) (g base:Nat) (ok:Bool) (w:World),n<=3->M.square (n+1) m->M.Jk m->eI w base v m->aG w g 103 #[ok]->
  Calls Tryz.prog 73 #[.pointer (some ⟨g,0,none⟩),v] w fun e w'=>e=.returned (.agg #[M.DQ (M.gO ok (n+1) m),M.DZ (M.gO ok (n+1) m)])/\Below w.heap.size (w.setCell ⟨g,0,none⟩ (.bool (ok && (M.cV (n+1) m).isSome))) w':=by
 induction n with
 | zero=>
  intro m v g base ok w hn D3 hok hm K
  obtain ⟨q,rfl⟩:∃ q,m=[[q]]:=by
   obtain ⟨h1,h2⟩:=D3;obtain ⟨r,rfl⟩:=List.length_eq_one_iff.1 h1;obtain ⟨q,rfl⟩:=List.length_eq_one_iff.1 (h2 r (List.mem_cons_self ..));exact ⟨q,rfl⟩
  obtain ⟨q1,q2⟩:=q;obtain ⟨gm,cap,g2,cap2,rfl,k0,k1,k2⟩:=hm.at (i:=0) (j:=0) rfl rfl;simp only [Nat.zero_mul,Nat.zero_add,List.length_cons,List.length_nil] at k0 k1 k2 ⊢;have e1:M.DQ (M.gO ok 1 [[(q1,q2)]])=q1:=rfl;have e2:M.DZ (M.gO ok 1 [[(q1,q2)]])=q2:=rfl
  have e3:(ok && (M.cV 1 [[(q1,q2)]]).isSome)=ok:=by cases ok <;> rfl
  rw [e1,e2,e3];clear e1 e2 e3 hok D3 hm;have B:=(DE w.heap.size w).alloc (DF _) (.cells #[(0:Int),(0:Int)] 74);have R:=aG.new w #[(0:Int),(0:Int)] 74;replace k0:=aE B k0;replace k1:=aE B k1;replace k2:=aE B k2;replace B:=Rg.ek K B;generalize hw3:w.alloc (.cells #[(0:Int),(0:Int)] 74)=wc at *;have ⟨r0,r1,z0,z1,rl⟩:=R.box;go_enter Tryz.func73,Tryz.ntmps73
  go_wp2;exact bodyPost_ret (v:=.agg #[q1,q2]) (by simp [results,Tryz.results73,go_sem, *]) rfl (⟨rfl,DD (DD B (by simp) _) (by simp) _⟩)
 | succ n ih=>
 intro m v g base ok w hn D3 hok hm K0;obtain ⟨vs,hm⟩:=hm;have hml:m.length=n+2:=D3.1
 obtain ⟨r0,hr0⟩:∃ r,m[0]?=some r:=⟨_,List.getElem?_eq_getElem (by omega)⟩
 have Ep:r0.length=n+2:=D3.2 r0 (List.mem_of_getElem? hr0)
 have hhd:m.headD []=r0:=by
  cases m with
  | nil=>cases hr0
  | cons x m=>exact Option.some.inj hr0
 obtain ⟨gm,GR,rfl,hcm,hcm2,hgm⟩:=hm.form (fun h=>by rw [h] at hml;simp only [List.length_nil] at hml;omega);obtain ⟨g0,cap0,hv0,hc0,hg0⟩:=hm.rowIs hr0 (fun h=>by rw [h] at Ep;simp only [List.length_nil] at Ep;omega);rw [Ep] at hv0 hc0;rw [hml] at hm hcm ⊢;have Hh:=hm.jC hv0;have hsd:M.gP ok n m (n+2)=M.gO ok (n+1+1) m/\(ok && (M.dS n m (n+2)).isSome)=(ok && (M.cV (n+1+1) m).isSome):=M.yF (ok:=ok) D3;have hsd:=DB hsd;have D3:=DB D3;have hr0:=DB hr0;have Ep:=DB Ep;have hml:=DB hml;have hhd:=DB hhd;have hok:=DB hok;have hm:=DB hm;have hv0:=DB hv0;have ih:=DB ih;have hsz:=DC w (.cells #[(0:Int),(0:Int)] 74);obtain ⟨wc,hw3,R,B⟩:=dD w #[(0:Int),(0:Int)] 74;rw [hw3] at hsz;have S:=aG.new wc #[(0:Int),(0:Int)] 74;replace B:=B.alloc (by omega) (.cells #[(0:Int),(0:Int)] 74);replace R:=R.alloc (.cells #[(0:Int),(0:Int)] 74);have hgl:=K0.lt
 have nR:w.heap.size≠g:=by omega
 have nS:wc.heap.size≠g:=by omega
 have nR2:g≠w.heap.size:=by omega
 have MX:g≠wc.heap.size:=by omega
 have hwl:w.heap.size<wc.heap.size:=by omega
 clear hsz;have K:=K0.keep B;have hwz:wc.heap.size+1<=(wc.alloc (.cells #[(0:Int),(0:Int)] 74)).heap.size:=S.lt;replace Hh:=aE B Hh;replace B:=Rg.ek K0 B
 have hn1:(n:Int)<=2:=by omega
 have hne1:((n:Int)+2 == 1)=false:=by rw [beq_eq_false_iff_ne];omega
 go_enter Tryz.func73,Tryz.ntmps73
 go_wp2
 go_loopw [25] (fun vc wq=>∃ c:Nat,c<=n+2/\vc=.int .i64 (c:Int)/\aG wq g 103 #[.bool (ok && (M.dS n m c).isSome)]/\aG wq wc.heap.size 74 #[M.DQ (M.gP ok n m c),M.DZ (M.gP ok n m c)]/\aG wq w.heap.size 74 #[(0:Int),(0:Int)]/\wc.heap.size+1<=wq.heap.size/\Below w.heap.size (w.setCell ⟨g,0,none⟩ (.bool (ok && (M.dS n m c).isSome))) wq) (fun vc _=>n+2 - (intOf vc).toNat)
 case atStart=>
  have e0:(ok && (M.dS n m 0).isSome)=ok:=by cases ok <;> rfl
  exact ⟨0,Nat.zero_le _,rfl,by rw [e0];exact K,S,R,hwz,by rw [e0];exact B⟩
 case round=>
 clear K S R B hwz Hh;obtain ⟨c,hc,rfl,K,S,R,hwz,B⟩:=hrel;generalize hwo:wr=wo at *;clear hwo
 by_cases hlt:c<n+2
 ·obtain ⟨q,hq⟩:∃ q,r0[c]?=some q:=⟨_,List.getElem?_eq_getElem (by have:=Ep.out;omega)⟩
  have LG:M.EI (some q):=fun p hp=>by
   obtain rfl:=Option.some.inj hp;exact hok.out r0 (List.mem_of_getElem? hr0.out) _ (List.mem_of_getElem? hq)
  have GN:=DB (hm.out.y8 K0 (by decide) (by decide) B);obtain ⟨d0,d1⟩:=(GN.out.rowFrom hv0.out hr0.out).at2 hq
  obtain ⟨fc,hfc⟩:∃ x,x=(ok && (M.dS n m c).isSome):=⟨_,rfl⟩
  obtain ⟨us,MU⟩:∃ x,x=M.gP ok n m c:=⟨_,rfl⟩
  obtain ⟨u1,hu1⟩:∃ x,x=M.gO fc (n+1) (M.bW m c):=⟨_,rfl⟩
  obtain ⟨f1,hf1⟩:∃ x,x=(fc && (M.cV (n+1) (M.bW m c)).isSome):=⟨_,rfl⟩
  obtain ⟨u2,hu2⟩:∃ x,x=M.gd f1 (M.fI (some q) u1):=⟨_,rfl⟩
  obtain ⟨hk1,hk2⟩:=M.tw hfc hf1 hu1 (by rw [hhd.out];exact hq) hu2
  have hfs:fc=true->us.isSome=true:=fun h=>by rw [MU];exact M.uk (by rw [←hfc];exact h)
  have JJ:f1=true->fc=true:=fun h=>by rw [hf1,Bool.and_eq_true] at h;exact h.1
  have K7:f1=true->u1.isSome=true:=fun h=>by rw [hu1];exact M.tu (by rw [←hf1];exact h)
  have Jb:u2.isSome=true->f1=true:=fun h=>by rw [hu2] at h;exact (M.jS h).1
  have HI:=M.jF D3.out hlt;have hok1:=M.mf (c:=c) hok.out
  have PD:=fun vo b W h K=>ih.out (M.bW m c) vo g b fc W (by omega) HI hok1 h K
  rw [←hu1,←hf1] at PD
  have PT:=fun W K=>xB g f1 (some q) u1 W K LG (by rw [hu1];exact M.ye hok1) (fun _=>rfl) K7
  rw [←hu2] at PT
  have hsu:M.EI us:=by rw [MU];exact M.AA
  have Jc:M.EI u2:=by rw [hu2];exact M.jZ M.s8
  have PP:=fun W K=>sp g u2.isSome us u2 W K hsu Jc (fun h=>hfs (JJ (Jb h))) (fun h=>h)
  have PM:=fun W K=>lN g u2.isSome us u2 W K hsu Jc (fun h=>hfs (JJ (Jb h))) (fun h=>h)
  rw [←MU] at hk1 hk2 S;rw [←hfc] at K B;rw [hk1] at hk2;have hmin:=DB (fun (i:Nat) (r:List (Int × Int)) (h:m[i+1]?=some r)=>M.uM (c:=c) h);have FY:=DB (M.rR (c:=c) (n:=n+1) hml.out)
  obtain ⟨mm,hmm⟩:∃ x,x=M.bW m c:=⟨_,rfl⟩
  rw [←hmm] at hmin FY PD;clear hmm HI hok1 hfs JJ K7 Jb hsu Jc hu2 hf1 hu1 hfc MU LG;obtain ⟨q1,q2⟩:=q;have e1:M.DQ (some (q1,q2))=q1:=rfl;have e2:M.DZ (some (q1,q2))=q2:=rfl;rw [e1,e2] at PT;simp only [] at d0 d1;clear e1 e2 hq;generalize M.DZ u1=h1,M.DQ u1=l1 at *
  have hq2:M.d9 us u2 c=if c % 2=0 then M.fW us u2 else M.cR us u2:=rfl
  rw [hq2] at hk1;clear hq2
  obtain ⟨un,hun⟩:∃ x,x=M.gP ok n m (c+1):=⟨_,rfl⟩
  obtain ⟨fn,hfn⟩:∃ x,x=(ok && (M.dS n m (c+1)).isSome):=⟨_,rfl⟩
  rw [←hun] at hk1 hk2;rw [←hfn] at hk2;replace hun:=DB hun;replace hfn:=DB hfn
  obtain ⟨f2,hf2⟩:∃ x,x=u2.isSome:=⟨_,rfl⟩
  rw [←hf2] at PT PP PM hk1;clear hf2;generalize M.DZ u2=h2,M.DQ u2=l2 at *
  obtain ⟨l5,hl5⟩:∃ x,x=M.DQ us:=⟨_,rfl⟩
  obtain ⟨h5,hh5⟩:∃ x,x=M.DZ us:=⟨_,rfl⟩
  rw [←hl5,←hh5] at PP PM S;clear hl5 hh5
  obtain ⟨l6,JN⟩:∃ x,x=M.DQ un:=⟨_,rfl⟩
  obtain ⟨h6,JM⟩:∃ x,x=M.DZ un:=⟨_,rfl⟩
  have PQ:(c % 2=0->∀ W,aG W g 103 #[f2]->Calls Tryz.prog 114 #[.pointer (some ⟨g,0,none⟩),.agg #[l5,h5],.agg #[l2,h2]] W fun e w'=>e=.returned (.agg #[l6,h6])/\Below W.heap.size (W.setCell ⟨g,0,none⟩ (.bool fn)) w'):=fun h W K=>by
   rw [if_pos h] at hk1;have:=PP W K;rw [hk1,hk2,←JN,←JM] at this;exact this
  have PR:(c % 2=1->∀ W,aG W g 103 #[f2]->Calls Tryz.prog 115 #[.pointer (some ⟨g,0,none⟩),.agg #[l5,h5],.agg #[l2,h2]] W fun e w'=>e=.returned (.agg #[l6,h6])/\Below W.heap.size (W.setCell ⟨g,0,none⟩ (.bool fn)) w'):=fun h W K=>by
   rw [if_neg (by omega)] at hk1;have:=PM W K;rw [hk1,hk2,←JN,←JM] at this;exact this
  rw [hun.out] at JN JM;have JN:=DB JN;have JM:=DB JM;clear PP PM hk1 hk2 hun us u1 u2 un;replace PD:=DB PD;replace PT:=DB PT;replace PQ:=DB PQ;replace PR:=DB PR
  have ngw:g≠wo.heap.size:=by omega
  have Bv:=(DE wo.heap.size wo).alloc (DF _) (.cells #[q1,q2] 74);have X:=aG.new wo #[q1,q2] 74;have hX:=X.lt;have GN:=DB (GN.out.below Bv);have hBs:=B.size;rw [aV] at hBs;replace B:=B.trans (Bv.mono hBs);replace K:=K.keep Bv;replace S:=S.keep Bv;replace R:=R.keep Bv;generalize hw2:wo.alloc (.cells #[q1,q2] 74)=wb at *;clear Bv
  have hcap1:¬ GR=1:=by omega
  go_wp2
  go_loopw [8,33] (fun vo vi wi=>∃ (i:Nat) (u:Value),i<=n+1/\vi=.int .i64 (i:Int)/\u=vo/\Hid (eI wi wb.heap.size u (mm.take i))/\Below wb.heap.size wb wi) (fun _ vi _=>n+1 - (intOf vi).toNat)
  case atStart=>exact ⟨0,_,Nat.zero_le _,rfl,rfl,DB (eI.nil _ _),DE _ _⟩
  case round=>
  clear d0 d1;obtain ⟨i,vo,hi,rfl,rfl,hrow,Bi⟩:=hrel;have EL:=DB (GN.out.below Bi)
  by_cases hlt2:i<n+1
  ·obtain ⟨r,hr⟩:∃ r,m[i+1]?=some r:=⟨_,List.getElem?_eq_getElem (by have:=hml.out;omega)⟩
   have hrl:r.length=n+2:=D3.out.2 r (List.mem_of_getElem? hr);obtain ⟨gi,DO,Jd,hci,hgi⟩:=EL.out.rowIs hr (fun h=>by rw [h] at hrl;simp only [List.length_nil] at hrl;omega);have LU:=EL.out.jC Jd;rw [Nat.add_comm i 1] at LU;have FR:=EL.out.rowFrom Jd hr;rw [hrl] at LU hci;have hcell:=hmin.out i r hr
   obtain ⟨nr,hnr⟩:∃ x,x=r.take c ++ r.drop (c+1):=⟨_,rfl⟩
   rw [←hnr] at hcell;have F1:=DB (FR.cut c);have F2:=DB (FR.tI (c+1) DO (by omega))
   have hl1:(r.take c).length=c:=by rw [List.length_take];omega
   have hl2:(r.drop (c+1)).length=n+2 - (c+1):=by rw [List.length_drop,hrl]
   have PC:=fun W h k0 k1 (b:Below wr.heap.size wr W)=>vY h c DO (n+2 - (c+1)) (DO - (c+1)) _ _ (r.take c) (r.drop (c+1)) W k0 k1 hl1 hl2 (F1.out.below b) (F2.out.below b) (by omega) (by omega)
   rw [←hnr] at PC;have hnx:=M.jj hcell;have hnx:=DB hnx;obtain ⟨vs2,Er⟩:=hrow.out;have Er:=DB Er
   have hlen:(mm.take i).length<=1000000000:=by rw [List.length_take];omega
   have hEP:EP.k=2:=rfl;rw [hEP] at PC;clear hEP hcell hnr F1 F2 hl1 hl2 FR Jd hr hrl;replace PC:=DB PC
   have hcc:((c:Nat):Int)<=4:=by omega
   have JI:((c:Nat):Int)<=((n+2:Nat):Int):=by omega
   have Pn:((c:Nat):Int)<=((DO:Nat):Int):=by omega
   have Po:((c:Nat):Int)+1<=((n+2:Nat):Int):=by omega
   go_upto_region 11 with fail
   refine Rg.Ai (fun k v w=>CF k (.slice (some ⟨gi,0,none⟩) c DO) (.slice (if DO=c+1 then some ⟨gi,0,none⟩ else some ⟨gi,(c+1)*2,none⟩) (n+2 - (c+1)) (DO - (c+1))) nr wb.heap.size (mm.take i) wr wb (v 8) (v 9) (v 10) (v 11) (v 12) w) [8,9,10,11,12] [vo,.slice (some ⟨gi,0,none⟩) (n+2) DO,.int .i64 ((c:Nat):Int),.slice (some ⟨gi,0,none⟩) c DO,.slice (some ⟨gi,0,none⟩) (n+2) DO,.int .i64 ((c:Nat):Int),.int .i64 ((c:Nat)+1),.slice (if DO=c+1 then some ⟨gi,0,none⟩ else some ⟨gi,(c+1)*2,none⟩) (n+2 - (c+1)) (DO - (c+1)),undef,undef,undef,undef,undef] (by kernel_rfl) (by kernel_rfl) (by kernel_rfl) (by decide) (fun k v v2 w h hj=>by rw [←h 8 (by decide),←h 9 (by decide),←h 10 (by decide),←h 11 (by decide),←h 12 (by decide)];exact hj) (fun _=>(DE _ wr).drew) ⟨?_,?_,?_,?_,?_,?_,?_,?_,?_,?_,?_,?_,?_,trivial⟩ ?_
   ·unfold Rg.bM
    rw [if_neg (by decide)];intro zZ w_ n_ B_ D8 hJ hr;refine ⟨rfl,?_⟩;have e8:zZ.tmps[8]?=some (vo):=hr 8 (by decide);go_simp
   ·unfold Rg.bM
    rw [if_neg (by decide)];intro zZ w_ n_ B_ D8 hJ hr;refine ⟨rfl,?_⟩;have e10:zZ.tmps[10]?=some (.slice (some ⟨gi,0,none⟩) (n+2) DO):=hr 10 (by decide);go_simp
   ·unfold Rg.bM
    rw [if_neg (by decide)];intro zZ w_ n_ B_ D8 hJ hr;refine ⟨rfl,?_⟩;have e6:zZ.tmps[6]?=some (.int .i64 ((c:Nat):Int)):=hr 6 (by decide);go_simp
   ·unfold Rg.bM
    rw [if_neg (by decide)];intro zZ w_ n_ B_ D8 hJ hr;refine ⟨rfl,?_⟩;have e38:zZ.tmps[38]?=some (.slice (some ⟨gi,0,none⟩) (n+2) DO):=hr 38 (by decide);have e39:zZ.tmps[39]?=some (.int .i64 ((c:Nat):Int)):=hr 39 (by decide)
    (first | (go_simp;done) | (go_simp;exact Rg.wr (by omega) (by omega)) | (go_simp;omega) | (go_simp;rfl))
   ·unfold Rg.bM
    rw [if_neg (by decide)];intro zZ w_ n_ B_ D8 hJ hr;refine ⟨rfl,?_⟩;have e10:zZ.tmps[10]?=some (.slice (some ⟨gi,0,none⟩) (n+2) DO):=hr 10 (by decide);go_simp
   ·unfold Rg.bM
    rw [if_neg (by decide)];intro zZ w_ n_ B_ D8 hJ hr;refine ⟨rfl,?_⟩;have e6:zZ.tmps[6]?=some (.int .i64 ((c:Nat):Int)):=hr 6 (by decide);go_simp
   ·unfold Rg.bM
    rw [if_neg (by decide)];intro zZ w_ n_ B_ D8 hJ hr;refine ⟨rfl,?_⟩;have e42:zZ.tmps[42]?=some (.int .i64 ((c:Nat):Int)):=hr 42 (by decide);have ec:=Rg.ec zZ
    (first | (go_simp;done) | (go_simp;exact Rg.wr (by omega) (by omega)) | (go_simp;omega) | (go_simp;rfl))
   ·unfold Rg.bM
    rw [if_neg (by decide)];intro zZ w_ n_ B_ D8 hJ hr;refine ⟨rfl,?_⟩;have e41:zZ.tmps[41]?=some (.slice (some ⟨gi,0,none⟩) (n+2) DO):=hr 41 (by decide);have e43:zZ.tmps[43]?=some (.int .i64 ((c:Nat)+1)):=hr 43 (by decide)
    have hcN:((c:Nat):Int)+1<=((n+2:Nat):Int):=by omega
    (first | (go_simp;done) | (go_simp;exact Rg.wr (by omega) (by omega)) | (go_simp;omega) | (go_simp;rfl))
   ·unfold Rg.bM
    rw [if_pos (by decide)];intro zZ w_ B_ hJ hr;have e40:zZ.tmps[40]?=some (.slice (some ⟨gi,0,none⟩) c DO):=hr 40 (by decide);have e44:zZ.tmps[44]?=some (.slice (if DO=c+1 then some ⟨gi,0,none⟩ else some ⟨gi,(c+1)*2,none⟩) (n+2 - (c+1)) (DO - (c+1))):=hr 44 (by decide);refine ⟨rfl,?_⟩;have hJ:Below wr.heap.size wr w_:=hJ;refine Rg.zB (x:=.slice (some ⟨w_.heap.size,0,none⟩) 2 2) (ob:=.cells #[.slice (some ⟨gi,0,none⟩) c DO,.slice (if DO=c+1 then some ⟨gi,0,none⟩ else some ⟨gi,(c+1)*2,none⟩) (n+2 - (c+1)) (DO - (c+1))] 130) (by first | (go_simp;done) | (go_simp;rfl)) ?_;exact ⟨_,rfl,Rg.pW _ _ _ 0 _ rfl,Rg.pW _ _ _ 1 _ rfl,hJ.alloc hJ.size _⟩
   ·unfold Rg.bM
    rw [if_pos (by decide)];intro zZ w_ B_ hJ hr;have e45:zZ.tmps[45]?=some (B_ 8):=hr 45 (by decide)
    have ef:∀ f,zZ.eval (.func f)=.func (.func f) #[] #[]:=fun _=>rfl
    refine ⟨rfl,?_⟩;obtain ⟨h_,e8_,k0_,k1_,Ex⟩:=hJ;rw [e8_] at e45;refine Rg.CT (by go_simp;exact ⟨rfl,rfl⟩) ?_;refine (PC.out w_ h_ k0_ k1_ Ex).mono ?_;rintro e w5 ⟨v5,rfl,Dw,hb5⟩;exact ⟨_,rfl,(Dw.down Ex.size:Rw.Own EP w5 wr.heap.size v5 nr),d_ Ex hb5⟩
   ·unfold Rg.bM
    rw [if_pos (by decide)];intro zZ w_ B_ hJ hr;have e46:zZ.tmps[46]?=some (B_ 9):=hr 46 (by decide);refine ⟨rfl,?_⟩;obtain ⟨EV,Ex⟩:=hJ;have EV:Rw.Own EP w_ wr.heap.size (B_ 9) nr:=EV;refine Rg.zB (x:=.slice (some ⟨w_.heap.size,0,none⟩) 1 1) (ob:=.cells #[B_ 9] 130) (by rcases EV.forms with ⟨q_,-⟩ | ⟨g_,c_,q_,-⟩ <;> rw [q_] at e46 ⊢ <;> (first | (go_simp;done) | (go_simp;rfl))) ?_;exact ⟨w_,rfl,rfl,EV,Ex⟩
   ·unfold Rg.bM
    rw [if_pos (by decide)];intro zZ w_ B_ hJ hr;have e37:zZ.tmps[37]?=some (vo):=hr 37 (by decide);have e47:zZ.tmps[47]?=some (B_ 10):=hr 47 (by decide);refine ⟨rfl,?_⟩;obtain ⟨w3,Qv,F6,EV,Ex⟩:=hJ;subst Qv;have F6:B_ 10=.slice (some ⟨w3.heap.size,0,none⟩) 1 1:=F6;have EV:Rw.Own EP w3 wr.heap.size (B_ 9) nr:=EV;rw [F6] at e47;have HJ:Below wb.heap.size wb w3:=d_ Bi Ex;obtain ⟨v6,w6,Jm,Jn,Jo⟩:=mH (W:=wb) (w:=w3) 98 wb.heap.size (B_ 9) nr vs2 _ _ (Er.out.below Ex) (EV.down Bi.size) (Er.out.fresh EV (DF _)) HJ HJ.size hlen;refine Rg.ri (x:=v6) (w2:=w6) (Rg.kE rfl (Rg.ev e37) (Rg.ev e47) Jm) ?_;exact ⟨⟨_,Jn⟩,Jo⟩
   ·unfold Rg.bM
    rw [if_pos (by decide)];intro zZ w_ B_ hJ hr;have e48:zZ.tmps[48]?=some (B_ 11):=hr 48 (by decide);refine ⟨rfl,?_⟩;refine Rg.ri (x:=B_ 11) (w2:=w_) (by first | (go_simp;done) | (go_simp;rfl)) ?_;exact hJ
   intro vals wz hJ hv;simp only [Rg.bF,Rg.fill,Act.put,Nat.reduceAdd];clear hv;obtain ⟨hM2,hB2⟩:=hJ;have hM2:eI wz wb.heap.size (vals 12) (mm.take i ++ [nr]):=hM2;rw [←hnx.out] at hM2;have hM2:=DB hM2;clear hnx Er PC;go_wp2
   go_roundw
   case rel=>exact ⟨i+1,_,by omega,by go_num,rfl,hM2,hB2⟩
   case measure=>simp [intOf] <;> omega
  obtain rfl:i=n+1:=by omega
  have FS:eI wr wb.heap.size vo mm:=by
   have h:=hrow.out;rw [List.take_of_length_le (by rw [FY.out];omega)] at h;exact h
  have FS:=DB FS
  have O9:w.heap.size<=wb.heap.size:=by omega
  replace B:=B.trans (Bi.mono O9);replace K:=K.keep Bi;replace S:=S.keep Bi;replace R:=R.keep Bi;replace X:=X.keep Bi;clear hrow EL GN Bi
  have nXg:wo.heap.size≠g:=by omega
  go_upto_region 13 with fail
  refine Rg.Al (g) 103 (fun n=>match n with | 0=>.bool fc | 1=>.bool f1 | _=>.bool f2) [4,5] 6 7 74 #[(0:Int),(0:Int)] #[l2,h2] [.is (.pointer (some ⟨g,0,none⟩)),.is (.agg #[q1,q2]),.is (.pointer (some ⟨g,0,none⟩)),.is (vo),.is (.agg #[l1,h1]),.is (.agg #[l2,h2]),.is (undef),.is (undef)] (by kernel_rfl) (by kernel_rfl) (by kernel_rfl) (fun j h1 h2=>match j,h1,h2 with | 0,h1,h2=>rfl | 1,h1,h2=>rfl | 2,h1,h2=>rfl | 3,h1,h2=>rfl | 4,h1,h2=>rfl | 5,h1,h2=>rfl | 6,h1,h2=>absurd rfl h1 | 7,h1,h2=>absurd rfl h2 | n+8,_,_=>rfl) (by decide) (by decide) (by decide) (by decide) K ⟨?_,?_,?_,?_,?_,?_,?_,?_,trivial⟩ ?_
  ·unfold Rg.bT
   rw [if_neg (by decide),if_neg (by decide),if_neg (by decide)];intro zZ w_ hH hr;have e0:zZ.tmps[0]?=some (.pointer (some ⟨g,0,none⟩)):=hr 0 (by decide);exact Rg.aW rfl (by go_simp)
  ·unfold Rg.bT
   rw [if_neg (by decide),if_neg (by decide),if_neg (by decide)];intro zZ w_ hH hr;have e7:zZ.tmps[7]?=some (.pointer (some ⟨wo.heap.size,0,none⟩)):=hr 7 (by decide);have k0:=(hH.2 _ _ _ nXg X).box.c0;have k1:=(hH.2 _ _ _ nXg X).box.c1;exact Rg.aW rfl (by go_simp)
  ·unfold Rg.bT
   rw [if_neg (by decide),if_neg (by decide),if_neg (by decide)];intro zZ w_ hH hr;have e0:zZ.tmps[0]?=some (.pointer (some ⟨g,0,none⟩)):=hr 0 (by decide);exact Rg.aW rfl (by go_simp)
  ·unfold Rg.bT
   rw [if_neg (by decide),if_neg (by decide),if_neg (by decide)];intro zZ w_ hH hr;have e8:zZ.tmps[8]?=some (vo):=hr 8 (by decide);exact Rg.aW rfl (by go_simp)
  ·unfold Rg.bT
   rw [if_neg (by decide),if_neg (by decide),if_pos (by decide)];intro zZ w_ K_ hH hr;replace K_:aG w_ (g) 103 #[fc]:=K_;have e52:=Rg.l_ (hr 52 (by decide));have e53:=Rg.l_ (hr 53 (by decide));have ef:=Rg.ef zZ;exact Rg.fz rfl (by go_simp) (PD.out _ _ _ (FS.out.elim fun _ h_=>⟨_,h_.held hH K (by decide) (by decide)⟩) K_)
  ·unfold Rg.bT
   rw [if_neg (by decide),if_neg (by decide),if_pos (by decide)];intro zZ w_ K_ hH hr;replace K_:aG w_ (g) 103 #[f1]:=K_;have e50:=Rg.l_ (hr 50 (by decide));have e51:=Rg.l_ (hr 51 (by decide));have e54:=Rg.l_ (hr 54 (by decide));have ef:=Rg.ef zZ;exact Rg.fz rfl (by go_simp) (PT.out _ K_)
  ·unfold Rg.bT
   rw [if_pos rfl];intro zZ w_;exact Rg.nJ rfl (by first | (go_simp;done) | (go_simp;rfl))
  ·unfold Rg.bT
   rw [if_neg (by decide),if_pos rfl];intro zZ w_ h_ hh hn hr;have e11:zZ.tmps[11]?=some (.pointer (some ⟨h_,0,none⟩)):=hr 11 (by decide);have e55:=Rg.l_ (hr 55 (by decide));have ⟨y0,y1,x0,x1,_⟩:=hn.box;refine ⟨rfl,?_⟩;unfold Oper.wp;go_simp
   exact ⟨aG.set2 hn _ _,DD (DD (DE _ _) hh _) hh _⟩
  intro vals wz h_ hh hn Gq hB hv;replace hB:Below wr.heap.size (wr.setCell ⟨g,0,none⟩ (.bool f2)) wz:=hB;simp only [Rg.bF,Rg.fill,Act.put,Nat.reduceAdd];clear hv;simp only [Gq];clear Gq;have hB2:=bB hB;have B2:=Rg.fx B K0 K hB;replace S:=(S.other (i:=0) nS (.bool f2)).keep hB2;replace R:=(R.other (i:=0) nR (.bool f2)).keep hB2;replace K:=(K.one (.bool f2)).keep hB2;have ⟨s0,s1,y0,y1,sl⟩:=S.box;have ⟨t0,t1,_,_,_⟩:=hn.box;clear hB hB2 B PD PT FS X;have ht:Int.tmod ((c:Nat):Int) 2=((c % 2:Nat):Int):=(Int.ofNat_tmod c 2).symm
  rcases Nat.mod_two_eq_zero_or_one c with hp | hp
  ·rw [hp] at ht
   have PX:=DB (PQ.out hp);clear PQ PR
   go_wp2_with (go_at_call 114;(with_reducible refine (PX.out _ K).mono ?_);rintro e w6 ⟨rfl,hb6⟩;have DL:=bB hb6;replace B2:=Rg.fx B2 K0 K hb6;replace S:=(S.other (i:=0) nS (.bool fn)).keep DL;replace R:=(R.other (i:=0) nR (.bool fn)).keep DL;replace K:=(K.one (.bool fn)).keep DL;(have ⟨s0,s1,y0,y1,sl⟩:=S.box))
   go_roundw
   case rel=>exact ⟨c+1,by omega,by go_num,by rw [←hfn.out];exact (K.other MX _).other MX _,by rw [←JN.out,←JM.out];exact aG.set2 S _ _,(R.other (by omega) _).other (by omega) _,by rw [aV,aV];omega,by rw [←hfn.out];exact DD (DD B2 (by show w.heap.size<=wc.heap.size;omega) _) (by show w.heap.size<=wc.heap.size;omega) _⟩
   case measure=>simp [intOf] <;> omega
  rw [hp] at ht;have PX:=DB (PR.out hp);clear PQ PR
  go_wp2_with (go_at_call 115;(with_reducible refine (PX.out _ K).mono ?_);rintro e w6 ⟨rfl,hb6⟩;have DL:=bB hb6;replace B2:=Rg.fx B2 K0 K hb6;replace S:=(S.other (i:=0) nS (.bool fn)).keep DL;replace R:=(R.other (i:=0) nR (.bool fn)).keep DL;replace K:=(K.one (.bool fn)).keep DL;(have ⟨s0,s1,y0,y1,sl⟩:=S.box))
  go_roundw
  case rel=>exact ⟨c+1,by omega,by go_num,by rw [←hfn.out];exact (K.other MX _).other MX _,by rw [←JN.out,←JM.out];exact aG.set2 S _ _,(R.other (by omega) _).other (by omega) _,by rw [aV,aV];omega,by rw [←hfn.out];exact DD (DD B2 (by show w.heap.size<=wc.heap.size;omega) _) (by show w.heap.size<=wc.heap.size;omega) _⟩
  case measure=>simp [intOf] <;> omega
 obtain rfl:c=n+2:=by omega
 obtain ⟨e1,e2⟩:=hsd.out;rw [e1] at S;rw [e2] at B K;clear e1 e2 hsd
 obtain ⟨d1,hd1⟩:∃ x,x=M.DQ (M.gO ok (n+1+1) m):=⟨_,rfl⟩
 obtain ⟨d2,hd2⟩:∃ x,x=M.DZ (M.gO ok (n+1+1) m):=⟨_,rfl⟩
 rw [←hd1,←hd2] at S;have hd1:=DB hd1;have hd2:=DB hd2;have ⟨s0,s1,y0,y1,sl⟩:=S.box;have ⟨t0,t1,z0,z1,tl⟩:=R.box;go_wp2;exact bodyPost_ret (v:=.agg #[d1,d2]) (by simp [results,Tryz.results73,go_sem, *]) rfl (⟨by rw [hd1.out,hd2.out],DD (DD B (DF _) _) (DF _) _⟩)
theorem bi.rowIs {w:World} {base:Nat} {v:Value} {vs:List Value} {rows:List (List (Int × Int × Int × Int))} (h:bi w base v vs rows) {i:Nat} {r:List (Int × Int × Int × Int)} (hr:rows[i]?=some r) (hne:r≠[]) :
  ∃ (g2 cap2:Nat),vs[i]?=some (.slice (some ⟨g2,0,none⟩) r.length cap2)/\r.length<=cap2/\g2<w.heap.size:=by
 have hi:=(List.getElem?_eq_some_iff.1 hr).1;have hl:=h.2.1;have hu:vs[i]?=some (vs[i]'(by omega)):=List.getElem?_eq_getElem (by omega)
 rcases (h.2.2.1 i _ r hu hr).forms with ⟨-,h4⟩ | ⟨g2,cap2,e,hg,hg2,hc2,-⟩
 ·exact absurd h4 hne
 exact ⟨g2,cap2,by rw [hu,e],hc2,hg2⟩
theorem bi.form {w:World} {base:Nat} {v:Value} {vs:List Value} {rows:List (List (Int × Int × Int × Int))} (h:bi w base v vs rows) (hne:rows≠[]):∃ (g cap:Nat),v=.slice (some ⟨g,0,none⟩) rows.length cap/\rows.length<=cap/\cap<=9223372036854775807/\g<w.heap.size:=by
 rcases h.1.2 with ⟨-,h2⟩ | ⟨g,cap,cur,e,hg,hh,hc,hm,-⟩
 ·exact absurd (List.eq_nil_of_length_eq_zero h2) hne
 exact ⟨g,cap,e,hc,by unfold maxLen at hm;omega,(Array.getElem?_eq_some_iff.1 hh).1⟩
theorem bi.jC {w:World} {base g n cap:Nat} {vs:List Value} {rows:List (List (Int × Int × Int × Int))} (h:bi w base (.slice (some ⟨g,0,none⟩) n cap) vs rows) {i:Nat} {u:Value} (hu:vs[i]?=some u):w.cell? ⟨g,i,none⟩=some u:=by
 have hi:=(List.getElem?_eq_some_iff.1 hu).1;have hl:=h.2.1;have h1:=h.1
 rcases h1.2 with ⟨e,-⟩ | ⟨g1,c1,GT,e,-⟩
 ·cases e
 injection e with _ e2 _
 subst e2;exact (World.ownsRow.cellAt h1 i (by omega)).trans hu
theorem bi.rowFrom {w:World} {base:Nat} {v:Value} {vs:List Value} {rows:List (List (Int × Int × Int × Int))} (h:bi w base v vs rows) {i g2 cap2 n2:Nat} {r:List (Int × Int × Int × Int)} (hu:vs[i]?=some (.slice (some ⟨g2,0,none⟩) n2 cap2)) (hr:rows[i]?=some r):Rw.From EN w (some ⟨g2,0,none⟩) r:=by
 have ho:=h.2.2.1 i _ r hu hr
 rcases ho.forms with ⟨e,-⟩ | ⟨g3,O4,e,hg,hg3,hc3,-⟩
 ·cases e
 injection e with e1 e2 e3
 have:=ho.Af e2 (ho.lt g2 rfl).2 (DE _ w) r.length;rw [List.take_length] at this;exact this
theorem Rw.From.at4 {w:World} {g c:Nat} {r:List (Int × Int × Int × Int)} {q:Int × Int × Int × Int} (h:Rw.From EN w (some ⟨g,0,none⟩) r) (hq:r[c]?=some q):w.cell? ⟨g,c*4,none⟩=some (.int .i64 q.1)/\w.cell? ⟨g,c*4+1,none⟩=some (.int .i64 q.2.1)/\w.cell? ⟨g,c*4+2,none⟩=some (.int .i64 q.2.2.1)/\w.cell? ⟨g,c*4+3,none⟩=some (.int .i64 q.2.2.2):=by
 have hadd:∀ b i:Nat,(⟨b,0,none⟩:Addr).add i=⟨b,i,none⟩:=fun b i=>by unfold Addr.add;split <;> simp_all
 have hc:∀ (t:Nat) (u:Value),t<4->(EN.cells q)[t]?=some u->w.cell? ⟨g,c*4+t,none⟩=some u:=fun t u ht hu=>by
  obtain ⟨ad,e,hh⟩:=h (c*4+t) u ((Rw.flat_get EN r c t q hq ht).trans hu);have:=Option.some.inj e;subst this;rw [hadd] at hh;exact hh
 exact ⟨hc 0 _ (by decide) rfl,hc 1 _ (by decide) rfl,hc 2 _ (by decide) rfl,hc 3 _ (by decide) rfl⟩
theorem Rw.jE {α:Type} {E:Rw.Enc α} {w W:World} {base:Nat} {v:Value} {xs:List α} {P:Program} {ts:TypeId} (F:Rw.Fits P E ts) (ty:TypeId) (ys:List α) (m:Nat) (hm:ys.length=m) (A:Option Addr) (c:Nat)
  (hr:Rw.From E w A ys) (hown:Rw.Own E w base v xs) (hW:Below base W w) (hB:base<=w.heap.size) (hl:xs.length+m<=100000000000) :
  ∃ v' w',(Builtin.append_ #[ts,ts] ty #[v,.slice A m c]).run P w=.ok v' w'/\Rw.Own E w' base v' (xs ++ ys)/\Below base W w':=by
 subst hm;exact Rw.qa F ty ys A c hr hown hW hB hl
abbrev Il:=List (List (Int × Int × Int × Int))
def M.gX (m:Il) (c:Nat):Il:=m.tail.map fun r=>r.take c ++ r.drop (c+1)
theorem M.uN {m:Il} {c i:Nat} {r:List (Int × Int × Int × Int)} (h:m[i+1]?=some r):(M.gX m c)[i]?=some (r.take c ++ r.drop (c+1)):=by
 unfold M.gX;rw [List.getElem?_map,List.getElem?_tail,h];rfl
theorem M.rS {m:Il} {c n:Nat} (h:m.length=n+1):(M.gX m c).length=n:=by
 unfold M.gX;rw [List.length_map,List.length_tail,h];rfl
def An (n:Nat) (r:List (Int × Int × Int × Int)) (c:Nat) (b2:Nat) (rows:Il) (w0 w2:World) (x1 x5 x10 RV RW x13:Value) (w:World):Prop:=match n with
 | 0=>Below w0.heap.size w0 w
 | 1=>Rw.Own EN w w0.heap.size x1 []/\Below w0.heap.size w0 w
 | 2=>Rw.Own EN w w0.heap.size x5 (r.take c)/\Below w0.heap.size w0 w
 | 3=>Rw.Own EN w w0.heap.size x10 (r.take c ++ r.drop (c+1))/\Below w0.heap.size w0 w
 | 4=>∃ w3,w=w3.alloc (.cells #[x10] 136)/\RV=.slice (some ⟨w3.heap.size,0,none⟩) 1 1/\Rw.Own EN w3 w0.heap.size x10 (r.take c ++ r.drop (c+1))/\Below w0.heap.size w0 w3
 | 5=>df w b2 RW (rows ++ [r.take c ++ r.drop (c+1)])/\Below b2 w2 w
 | _=>df w b2 x13 (rows ++ [r.take c ++ r.drop (c+1)])/\Below b2 w2 w
theorem uH (n c:Nat) (m:Il) (v:Value) (base:Nat) (w:World) (hn:n<=2) (hml:m.length=n+2) (hmr:∀ r ∈ m,r.length=n+2) (hc:c<n+2) (hm:df w base v m) :
  Calls Tryz.prog 120 #[v,.int .i64 (c:Int)] w fun e w'=>∃ v',e=.returned v'/\df w' w.heap.size v' (M.gX m c)/\Below w.heap.size w w':=by
 obtain ⟨vs,hm⟩:=hm;obtain ⟨gm,GR,rfl,hcm,hcm2,hgm⟩:=hm.form (fun h=>by rw [h] at hml;simp only [List.length_nil] at hml;omega);rw [hml] at hm hcm ⊢;have hmin:=DB (fun (i:Nat) (r:List (Int × Int × Int × Int)) (h:m[i+1]?=some r)=>M.uN (c:=c) h);have FY:=DB (M.rS (c:=c) (n:=n+1) hml)
 obtain ⟨mm,hmm⟩:∃ x,x=M.gX m c:=⟨_,rfl⟩
 rw [←hmm] at hmin FY ⊢;clear hmm;have hml:=DB hml;have hmr:=DB hmr;have hm:=DB hm
 have hcap1:¬ GR=1:=by omega
 have hn1:(n:Int)<=2:=by omega
 go_enter Tryz.func120,Tryz.ntmps120
 go_wp2
 go_loopw [5,11] (fun vo vi wi=>∃ (i:Nat) (u:Value),i<=n+1/\vi=.int .i64 (i:Int)/\u=vo/\Hid (df wi w.heap.size u (mm.take i))/\Below w.heap.size w wi) (fun _ vi _=>n+1 - (intOf vi).toNat)
 case atStart=>exact ⟨0,_,Nat.zero_le _,rfl,rfl,DB (df.nil _ _),DE _ _⟩
 case round=>
 obtain ⟨i,vo,hi,rfl,rfl,hrow,Bi⟩:=hrel;have EL:=DB (hm.out.below Bi)
 by_cases hlt2:i<n+1
 ·obtain ⟨r,hr⟩:∃ r,m[i+1]?=some r:=⟨_,List.getElem?_eq_getElem (by have:=hml.out;omega)⟩
  have hrl:r.length=n+2:=hmr.out r (List.mem_of_getElem? hr);obtain ⟨gi,DO,Jd,hci,hgi⟩:=EL.out.rowIs hr (fun h=>by rw [h] at hrl;simp only [List.length_nil] at hrl;omega);have LU:=EL.out.jC Jd;rw [Nat.add_comm i 1] at LU;have FR:=EL.out.rowFrom Jd hr;rw [hrl] at LU hci;have hcell:=hmin.out i r hr;have F1:=DB (FR.cut c);have F2:=FR.tI (c+1) DO (by omega);have hEN:EN.k=4:=rfl;rw [hEN] at F2;have F2:=DB F2
  have hl1:(r.take c).length=c:=by rw [List.length_take];omega
  have hl2:(r.drop (c+1)).length=n+2 - (c+1):=by rw [List.length_drop,hrl]
  have hl1:=DB hl1;have hl2:=DB hl2;have hnx:=DB (M.jj hcell);obtain ⟨vs2,Er⟩:=hrow.out;have Er:=DB Er
  have hlen:(mm.take i).length<=1000000000:=by rw [List.length_take];omega
  have hlen:=DB hlen;clear hEN hcell FR Jd hr hrl
  have hcc:((c:Nat):Int)<=4:=by omega
  have JI:((c:Nat):Int)<=((n+2:Nat):Int):=by omega
  have Pn:((c:Nat):Int)<=((DO:Nat):Int):=by omega
  have Po:((c:Nat):Int)+1<=((n+2:Nat):Int):=by omega
  go_upto_region 5 with fail
  refine Rg.Ai (fun k v w2_=>An k r c w.heap.size (mm.take i) wr w (v 1) (v 5) (v 10) (v 11) (v 12) (v 13) w2_) [1,5,10,11,12,13] [vo,undef,.slice (some ⟨gi,0,none⟩) (n+2) DO,.int .i64 ((c:Nat):Int),.slice (some ⟨gi,0,none⟩) c DO,undef,.slice (some ⟨gi,0,none⟩) (n+2) DO,.int .i64 ((c:Nat):Int),.int .i64 ((c:Nat)+1),.slice (if DO=c+1 then some ⟨gi,0,none⟩ else some ⟨gi,(c+1)*4,none⟩) (n+2 - (c+1)) (DO - (c+1)),undef,undef,undef,undef] (by kernel_rfl) (by kernel_rfl) (by kernel_rfl) (by decide) (fun k v v2 w h hj=>by rw [←h 1 (by decide),←h 5 (by decide),←h 10 (by decide),←h 11 (by decide),←h 12 (by decide),←h 13 (by decide)];exact hj) (fun _=>(DE _ wr).drew) ⟨?_,?_,?_,?_,?_,?_,?_,?_,?_,?_,?_,?_,?_,?_,trivial⟩ ?_
  ·unfold Rg.bM
   rw [if_neg (by decide)];intro zZ w_ n_ B_ D8 hJ hr;refine ⟨rfl,?_⟩;have e5:zZ.tmps[5]?=some (vo):=hr 5 (by decide);go_simp
  ·unfold Rg.bM
   rw [if_pos (by decide)];intro zZ w_ B_ hJ hr;refine ⟨rfl,?_⟩;have hJ:Below wr.heap.size wr w_:=hJ;refine Rg.zB (x:=.slice (some ⟨w_.heap.size,0,none⟩) 0 0) (ob:=.cells #[] 78) (by (first | (go_simp;done) | (go_simp;rfl))) ?_;exact ⟨(Rw.Own.zD EN w_ _ hJ.size:Rw.Own EN _ wr.heap.size _ []),hJ.alloc hJ.size _⟩
  ·unfold Rg.bM
   rw [if_neg (by decide)];intro zZ w_ n_ B_ D8 hJ hr;refine ⟨rfl,?_⟩;have e7:zZ.tmps[7]?=some (.slice (some ⟨gi,0,none⟩) (n+2) DO):=hr 7 (by decide);go_simp
  ·unfold Rg.bM
   rw [if_neg (by decide)];intro zZ w_ n_ B_ D8 hJ hr;refine ⟨rfl,?_⟩;have e1:zZ.tmps[1]?=some (.int .i64 ((c:Nat):Int)):=hr 1 (by decide);go_simp
  ·unfold Rg.bM
   rw [if_neg (by decide)];intro zZ w_ n_ B_ D8 hJ hr;refine ⟨rfl,?_⟩;have e17:zZ.tmps[17]?=some (.slice (some ⟨gi,0,none⟩) (n+2) DO):=hr 17 (by decide);have e18:zZ.tmps[18]?=some (.int .i64 ((c:Nat):Int)):=hr 18 (by decide)
   (first | (go_simp;done) | (go_simp;exact Rg.wr (by omega) (by omega)) | (go_simp;omega) | (go_simp;rfl))
  ·unfold Rg.bM
   rw [if_pos (by decide)];intro zZ w_ B_ hJ hr;have e16:zZ.tmps[16]?=some (B_ 1):=hr 16 (by decide);have e19:zZ.tmps[19]?=some (.slice (some ⟨gi,0,none⟩) c DO):=hr 19 (by decide);refine ⟨rfl,?_⟩;obtain ⟨EV,Ex⟩:=hJ;have EV:Rw.Own EN w_ wr.heap.size (B_ 1) []:=EV;obtain ⟨v6,w6,Jm,Jn,Jo⟩:=Rw.jE pt (W:=wr) 136 (r.take c) c hl1.out (some ⟨gi,0,none⟩) DO (F1.out.below Ex) EV Ex Ex.size (by simp only [List.length_nil];omega);refine Rg.ri (x:=v6) (w2:=w6) (Rg.kE rfl (Rg.ev e16) (Rg.ev e19) Jm) ?_;exact ⟨Jn,Jo⟩
  ·unfold Rg.bM
   rw [if_neg (by decide)];intro zZ w_ n_ B_ D8 hJ hr;refine ⟨rfl,?_⟩;have e7:zZ.tmps[7]?=some (.slice (some ⟨gi,0,none⟩) (n+2) DO):=hr 7 (by decide);go_simp
  ·unfold Rg.bM
   rw [if_neg (by decide)];intro zZ w_ n_ B_ D8 hJ hr;refine ⟨rfl,?_⟩;have e1:zZ.tmps[1]?=some (.int .i64 ((c:Nat):Int)):=hr 1 (by decide);go_simp
  ·unfold Rg.bM
   rw [if_neg (by decide)];intro zZ w_ n_ B_ D8 hJ hr;refine ⟨rfl,?_⟩;have e22:zZ.tmps[22]?=some (.int .i64 ((c:Nat):Int)):=hr 22 (by decide);have ec:=Rg.ec zZ
   (first | (go_simp;done) | (go_simp;exact Rg.wr (by omega) (by omega)) | (go_simp;omega) | (go_simp;rfl))
  ·unfold Rg.bM
   rw [if_neg (by decide)];intro zZ w_ n_ B_ D8 hJ hr;refine ⟨rfl,?_⟩;have e21:zZ.tmps[21]?=some (.slice (some ⟨gi,0,none⟩) (n+2) DO):=hr 21 (by decide);have e23:zZ.tmps[23]?=some (.int .i64 ((c:Nat)+1)):=hr 23 (by decide)
   have hcN:((c:Nat):Int)+1<=((n+2:Nat):Int):=by omega
   (first | (go_simp;done) | (go_simp;exact Rg.wr (by omega) (by omega)) | (go_simp;omega) | (go_simp;rfl))
  ·unfold Rg.bM
   rw [if_pos (by decide)];intro zZ w_ B_ hJ hr;have e20:zZ.tmps[20]?=some (B_ 5):=hr 20 (by decide);have e24:zZ.tmps[24]?=some (.slice (if DO=c+1 then some ⟨gi,0,none⟩ else some ⟨gi,(c+1)*4,none⟩) (n+2 - (c+1)) (DO - (c+1))):=hr 24 (by decide);refine ⟨rfl,?_⟩;obtain ⟨EV,Ex⟩:=hJ;have EV:Rw.Own EN w_ wr.heap.size (B_ 5) (r.take c):=EV;obtain ⟨v6,w6,Jm,Jn,Jo⟩:=Rw.jE pt (W:=wr) 136 (r.drop (c+1)) (n+2 - (c+1)) hl2.out _ (DO - (c+1)) (F2.out.below Ex) EV Ex Ex.size (by rw [hl1.out];omega);refine Rg.ri (x:=v6) (w2:=w6) (Rg.kE rfl (Rg.ev e20) (Rg.ev e24) Jm) ?_;exact ⟨Jn,Jo⟩
  ·unfold Rg.bM
   rw [if_pos (by decide)];intro zZ w_ B_ hJ hr;have e25:zZ.tmps[25]?=some (B_ 10):=hr 25 (by decide);refine ⟨rfl,?_⟩;obtain ⟨EV,Ex⟩:=hJ;have EV:Rw.Own EN w_ wr.heap.size (B_ 10) _:=EV;refine Rg.zB (x:=.slice (some ⟨w_.heap.size,0,none⟩) 1 1) (ob:=.cells #[B_ 10] 136) (by rcases EV.forms with ⟨q_,-⟩ | ⟨g_,c_,q_,-⟩ <;> rw [q_] at e25 ⊢ <;> (first | (go_simp;done) | (go_simp;rfl))) ?_;exact ⟨w_,rfl,rfl,EV,Ex⟩
  ·unfold Rg.bM
   rw [if_pos (by decide)];intro zZ w_ B_ hJ hr;have e15:zZ.tmps[15]?=some (vo):=hr 15 (by decide);have e26:zZ.tmps[26]?=some (B_ 11):=hr 26 (by decide);refine ⟨rfl,?_⟩;obtain ⟨w3,Qv,F6,EV,Ex⟩:=hJ;subst Qv;have F6:B_ 11=.slice (some ⟨w3.heap.size,0,none⟩) 1 1:=F6;have EV:Rw.Own EN w3 wr.heap.size (B_ 10) _:=EV;rw [F6] at e26;have HJ:Below w.heap.size w w3:=d_ Bi Ex;obtain ⟨v6,w6,Jm,Jn,Jo⟩:=mG (W:=w) (w:=w3) 105 w.heap.size (B_ 10) _ vs2 _ _ (Er.out.below Ex) (EV.down Bi.size) (Er.out.fresh EV (DF _)) HJ HJ.size hlen.out;refine Rg.ri (x:=v6) (w2:=w6) (Rg.kE rfl (Rg.ev e15) (Rg.ev e26) Jm) ?_;exact ⟨⟨_,Jn⟩,Jo⟩
  ·unfold Rg.bM
   rw [if_pos (by decide)];intro zZ w_ B_ hJ hr;have e27:zZ.tmps[27]?=some (B_ 12):=hr 27 (by decide);refine ⟨rfl,?_⟩;refine Rg.ri (x:=B_ 12) (w2:=w_) (by (first | (go_simp;done) | (go_simp;rfl))) ?_;exact hJ
  intro vals wz hJ hv;simp only [Rg.bF,Rg.fill,Act.put,Nat.reduceAdd];clear hv;obtain ⟨hM2,hB2⟩:=hJ;have hM2:df wz w.heap.size (vals 13) (mm.take i ++ [r.take c ++ r.drop (c+1)]):=hM2;rw [←hnx.out] at hM2;have hM2:=DB hM2;clear hnx Er;go_wp2
  go_roundw
  case rel=>exact ⟨i+1,_,by omega,by go_num,rfl,hM2,hB2⟩
  case measure=>simp [intOf] <;> omega
 obtain rfl:i=n+1:=by omega
 have FS:df wr w.heap.size vo mm:=by
  have h:=hrow.out;rw [List.take_of_length_le (by rw [FY.out];omega)] at h;exact h
 have FS:=DB FS;clear hrow EL;go_wp2;go_ret;exact ⟨_,rfl,FS.out,Bi⟩
end
end Go.Proofs.YtkalaljcbmkbmaaGreat
