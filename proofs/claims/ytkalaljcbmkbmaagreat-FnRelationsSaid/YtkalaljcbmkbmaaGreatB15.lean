/-
  Joined texts: contracts and plain lemmas.
-/
import Derived.Test.YtkalaljcbmkbmaaGreatB1
import Derived.Test.YtkalaljcbmkbmaaGreatB14
import Derived.Test.YtkalaljcbmkbmaaGreatB12
import Derived.Test.YtkalaljcbmkbmaaGreatShG
import Derived.Test.YtkalaljcbmkbmaaGreatB13
set_option linter.unusedSimpArgs false
set_option linter.unusedVariables false
set_option maxRecDepth 100000
set_option maxHeartbeats 8000000
namespace Go.Proofs.YtkalaljcbmkbmaaGreat
open Tryz
section
open Go.RowKit open Gr M Rg Rw Wh
theorem tr (gm n:Nat):gC gm n n=((List.range n).map fun i=>Value.slice (some ⟨gm+1+i,0,none⟩) n n).toArray:=by
 unfold gC
 congr 1
 apply List.map_congr_left
 intro i hi;rw [if_pos (List.mem_range.1 hi)]
theorem mK (a b:Int) (v:Value) (l:List Pt) (w:World) (hx:dj w v l) (hg:M.good a b=true) (hn:l.length<=4) (hp:∀ p ∈ l,aP a b p.1 p.2.1 p.2.2=true) :
  Calls prog 72 #[.agg #[a,b],v] w fun e w'=>∃ mv,e=.returned (.tuple #[mv,M.J3 a b l])/\fQ w' w mv (fG a b l)/\Below w w w':=by
 have hin:=aY hg;obtain ⟨sa,cap,rfl,hv⟩:=hx;have hv:=IU hv;have hp:=IU hp
 obtain ⟨N,hN⟩:∃ N,Hid (l.length=N):=⟨_,IU rfl⟩
 rw [hN.out] at hn ⊢
 have hmk:=fun W=>Do W N hn
 have hms:=fun W=>BZ W N hn
 obtain ⟨wc,hw3,C,G,B⟩:=eC w #[a,b] 25 (Array.replicate N (Value.slice none 0 0)) 130
 have hz:wc.heap.size=w.heap.size+1+1:=by rw [←hw3,IV,IV]
 have hr0:Array.replicate N (Value.slice none 0 0)=gC (w.heap.size+1) N 0:=by rw [tu,List.toArray_replicate]
 rw [hr0] at G;clear hr0;go_enter func72,ntmps72
 go_wp2
 go_loopw [20] (fun vk wr=>∃ k:Nat,k<=N/\vk=.int .i64 k/\aG wr (w.heap.size+1) 130 (gC (w.heap.size+1) N k)/\wr.heap.size=w.heap.size+1+1+k/\(∀ i,i<k->aG wr (w.heap.size+1+1+i) 74 (b7 (List.replicate N (0,0))))/\aG wr w 25 #[a,b]/\Below w w wr) (fun vk _=>N - (intOf vk).toNat)
 case atStart=>exact ⟨0,Nat.zero_le _,rfl,G,hz,fun i h=>absurd h ω,C,B⟩
 case round=>
 clear C B G hz hw3;obtain ⟨k,hk,rfl,G,hz,hrow,C,B⟩:=hrel
 by_cases hlt:k<N
 ·have Gb:=G.lt
  have G2:=G.alloc (.cells (b7 (List.replicate N (0,0))) 74);have g0:=(G2.cell k).trans (ym hlt);have gf:=G2.Ih k;have Gn:=aG.new wr (b7 (List.replicate N (0,0))) 74;have C2:=C.alloc (.cells (b7 (List.replicate N (0,0))) 74);have B2:=B.alloc B.size (.cells (b7 (List.replicate N (0,0))) 74);go_wp2
  go_roundw
  case rel=>
   refine ⟨k+1,ω,ν,?_,?_,fun i hi2=>?_,C2.other ω _,IW B2 σ _⟩
   ·rw [←tt hlt,←hz]
    exact G2.set k _
   ·rw [aS,IV];omega
   rcases Nat.lt_or_ge i k with q | q
   ·exact ((hrow i q).alloc _).other ω _
   obtain rfl:i=k:=ω
   rw [←hz];exact Gn.other ω _
  case measure=>simp [intOf] <;> omega
 obtain rfl:N=k:=ω
 have hG:fb wr (w.heap.size+1) N (List.replicate N (List.replicate N (0,0))):=by
  refine ⟨List.length_replicate,by rw [←tr];exact G,fun i r hr=>?_⟩
  have hi:i<N:=by
   have:=(List.getElem?_eq_some_iff.1 hr).1;rw [List.length_replicate] at this;exact this
  rw [List.getElem?_replicate,if_pos hi] at hr;have e:=Option.some.inj hr;subst e;exact ⟨List.length_replicate,hrow i hi⟩
 rw [yx _ (M.fe a b l)] at hG;clear G hrow hz hmk hms hlt
 have hno:=IU fun i j h1 h2 h=>BT (a:=a) (b:=b) (l:=l) (i:=i) (j:=j) h1 h2 h
 have hrn:=IU fun h=>Bk (a:=a) (b:=b) (l:=l) h
 go_wp2
 go_loopw [32] (fun vi wq=>∃ i:Nat,i<=N/\vi=.int .i64 i/\Hid (∀ i',i'<i->∀ j,j<l.length->(M.ent a b l i' j).isSome=true)/\Hid (fb wq (w.heap.size+1) N (dh N (M.done i i) (M.fe a b l)))/\aG wq w 25 #[a,b]/\Below w w wq) (fun vi _=>N - (intOf vi).toNat)
 case atStart=>exact ⟨0,Nat.zero_le _,rfl,IU (fun i' h=>absurd h ω),IU hG,C,B⟩
 case round=>
 clear C B hG;obtain ⟨i,hi,rfl,hall,hG,C,B⟩:=hrel
 by_cases hlt:i<N
 ·obtain ⟨x,hx⟩:∃ x,l[i]?=some x:=⟨_,List.getElem?_eq_getElem (by have:=hN.out;omega)⟩
  obtain ⟨g,o_,rfl,hpt⟩:∃ g o_,sa=some ⟨g,o_,none⟩/\qN w g o_ l:=by
   rcases hv.out with h | h
   ·rw [h] at hx;cases hx
   exact h
  have hpt:=IU hpt;obtain ⟨d0,d1,d2⟩:=(hpt.out.below B) i x hx;have hpx:=hp.out x (List.mem_of_getElem? hx);have he:=sn (a:=a) (b:=b) hx;have hx:=IU hx;obtain ⟨x1,x2,x3⟩:=x;simp only [] at d0 d1 d2 hpx he;have hb1:=eP hin hpx
  have PS:=fun W=>pQ a b x1 x2 x3 W hg hb1.1 hb1.2.1 hb1.2.2.1 hb1.2.2.2.1
  clear hb1;generalize fP a b x1 x3=ss at *;have hni:=hno.out i i (by have:=hN.out;omega) (by have:=hN.out;omega);rw [he] at hni;have hgs:=hG.out.size ω;have Bv:=(IX wr wr).alloc (IY _) (.cells #[x1,x2,x3] 40);have C1:=C.alloc (.cells #[x1,x2,x3] 40);have Z1:=aG.new wr #[x1,x2,x3] 40;have f_:=C1.box.c0;have i_:=C1.box.c1;have ⟨z0,z1,z2⟩:=Z1.aM
  cases ss with
  | none=>
   have hfin:=IU (hni rfl);have hfr:=IU (hrn.out hfin.out);have e9:=IU (show M.Iy none=0/\M.I3 none=0/\(none:M.Sp).isSome=false from ⟨rfl,rfl,rfl⟩);rw [e9.out.1,e9.out.2.1,e9.out.2.2] at PS;clear hni hno hrn e9 he;replace PS:=IU PS
   go_wp2_with (go_at_call 110;with_reducible refine p_ (PS.out _) fun w4 hb4=>?_;replace Bv:=(j_ Bv hb4).alloc (Nat.le_trans Bv.size hb4.size) (.cells #[(0:Int),(0:Int)] 74);have V:=aG.new w4 #[(0:Int),(0:Int)] 74;have Ji:=hb4.size;(rw [IV] at Ji);replace Z1:=(Z1.keep hb4).alloc (.cells #[(0:Int),(0:Int)] 74);(have ⟨v0,v1,_,_,_⟩:=V.box))
   go_ret2;exact ⟨_,by rw [hfin.out];rfl,by rw [hfr.out];exact fQ.nil _ _,j_ B Bv⟩
  | some q=>
  have hqe:M.fe a b l i i=q:=by unfold M.fe;rw [he];rfl
  have hqe:=IU hqe;have hsm:=IU (show (M.ent a b l i i).isSome=true by rw [he];rfl);obtain ⟨q1,q2⟩:=q;have e1:M.Iy (some (q1,q2))=q1:=rfl;have e2:M.I3 (some (q1,q2))=q2:=rfl;have e5:(some (q1,q2):M.Sp).isSome=true:=rfl;rw [e1,e2,e5] at PS;clear hni he e1 e2 e5;replace PS:=IU PS
  go_upto_region 13 with (go_at_call 110;with_reducible refine p_ (PS.out _) fun w4 hb4=>?_;replace Bv:=(j_ Bv hb4).alloc (Nat.le_trans Bv.size hb4.size) (.cells #[q1,q2] 74);have V:=aG.new w4 #[q1,q2] 74;have Ji:=hb4.size;(rw [IV] at Ji);replace Z1:=(Z1.keep hb4).alloc (.cells #[q1,q2] 74);(have ⟨v0,v1,_,_,_⟩:=V.box))
  have hM:=(show eW w N a b x1 x2 x3 wr _ _ from ⟨hG.out.below Bv,C.keep Bv,⟨ω,Z1⟩,j_ B Bv⟩)
  have hS:=(show gU w N w4 (q1,q2) _ from ⟨ω,V⟩)
  clear Bv C1 C f_ i_ z0 z1 z2 v0 v1 d0 d1 d2 PS Z1 V B hG Ji hb4
  have hii:((i:Nat):Int)<=4:=ω
  generalize wr.heap.size=pb,w4.heap.size=sb,w4.alloc (.cells #[q1,q2] 74)=wd at *;have hM:=IU hM;have hS:=IU hS;refine FV (fun n W=>eW w N a b x1 x2 x3 pb (dh N (M.done i (i+n)) (M.fe a b l)) W/\gU w N sb (q1,q2) W) [7] [.slice (some ⟨w.heap.size+1,0,none⟩) N N,.int .i64 ((i:Nat):Int),.pointer (some ⟨w.heap.size+1,i,none⟩),.slice (some ⟨w.heap.size+1+1+i,0,none⟩) N N,.int .i64 ((i:Nat):Int),.agg #[q1,q2],.pointer (some ⟨w.heap.size+1+1+i,i*2,none⟩),undef] κ κ κ δ (⟨hM.out.below (IX _ wd).drew,hS.out.below (IX _ wd).drew⟩) ⟨?_,?_,?_,?_,?_,?_,?_,?_,trivial⟩ ?_
  ·unfold bw
   rw [if_neg δ];intro zZ w_ n_ Jh hJ hr;refine ⟨rfl,?_⟩;have e6:zZ.tmps[6]?=some (.slice (some ⟨w.heap.size+1,0,none⟩) N N):=hr 6 δ;go_simp
  ·unfold bw
   rw [if_neg δ];intro zZ w_ n_ Jh hJ hr;refine ⟨rfl,?_⟩;have e8:zZ.tmps[8]?=some (.int .i64 ((i:Nat):Int)):=hr 8 δ;go_simp
  ·unfold bw
   rw [if_neg δ];intro zZ w_ n_ Jh hJ hr;refine ⟨rfl,?_⟩;have e45:zZ.tmps[45]?=some (.slice (some ⟨w.heap.size+1,0,none⟩) N N):=hr 45 δ;have e46:zZ.tmps[46]?=some (.int .i64 ((i:Nat):Int)):=hr 46 δ
   have Kn:((i:Nat):Int)<(N:Int):=ω
   first | (go_simp;done) | (go_simp;omega)
  ·unfold bw
   rw [if_neg δ];intro zZ w_ n_ Jh hJ hr;refine ⟨rfl,?_⟩;have e47:zZ.tmps[47]?=some (.pointer (some ⟨w.heap.size+1,i,none⟩)):=hr 47 δ;have hr_:=fb.row hJ.1.1 (i:=i) ω
   first | (go_simp;done)
  ·unfold bw
   rw [if_neg δ];intro zZ w_ n_ Jh hJ hr;refine ⟨rfl,?_⟩;have e8:zZ.tmps[8]?=some (.int .i64 ((i:Nat):Int)):=hr 8 δ;go_simp
  ·unfold bw
   rw [if_neg δ];intro zZ w_ n_ Jh hJ hr;refine ⟨rfl,?_⟩;have e10:zZ.tmps[10]?=some (.pointer (some ⟨sb,0,none⟩)):=hr 10 δ;have k0:=hJ.2.2.box.c0;have k1:=hJ.2.2.box.c1;go_simp
  ·unfold bw
   rw [if_neg δ];intro zZ w_ n_ Jh hJ hr;refine ⟨rfl,?_⟩;have e48:zZ.tmps[48]?=some (.slice (some ⟨w.heap.size+1+1+i,0,none⟩) N N):=hr 48 δ;have e49:zZ.tmps[49]?=some (.int .i64 ((i:Nat):Int)):=hr 49 δ
   have Kn:((i:Nat):Int)<(N:Int):=ω
   first | (go_simp;done) | (go_simp;omega)
  ·unfold bw
   rw [if_pos δ];intro zZ w_ hJ hr;have e50:zZ.tmps[50]?=some (.agg #[q1,q2]):=hr 50 δ;have e51:zZ.tmps[51]?=some (.pointer (some ⟨w.heap.size+1+1+i,i*2,none⟩)):=hr 51 δ;refine ⟨rfl,?_⟩;obtain ⟨LI,Of⟩:=hJ;have LI:eW w N a b x1 x2 x3 pb (dh N (M.done i i) (M.fe a b l)) w_:=LI;have ⟨y0,y1,Ou,KA,xl_⟩:=fb.cells LI.1 (i:=i) (j:=i) (eU _ _ ω) (fa _ _ ω)
   have Kn:((i:Nat):Int)<(N:Int):=ω
   have LH:=eW.put LI (i:=i) (j:=i) (q:=(q1,q2)) (rows':=dh N (M.done i (i+1)) (M.fe a b l)) (eU _ _ ω) ω (by rw [←hqe.out];exact M.oj _ ω);have M7:=gU.put Of (i:=i) (j1:=i*2) (j2:=i*2+1) (u:=.int .i64 q1) (v:=.int .i64 q2) ω;clear LI Of;unfold Oper.wp;go_simp
   all_goals first | exact LH | exact ⟨LH,M7⟩
  intro vals wz hJ hv;simp only [bD,Rg.fill,Act.put,Nat.reduceAdd];clear hv;obtain ⟨hM2,-⟩:=hJ;have hM2:eW w N a b x1 x2 x3 pb (dh N (M.done i (i+1)) (M.fe a b l)) wz:=hM2;clear hM hS hqe;go_wp2
  go_loopw [12] (fun vk wq=>∃ k:Nat,i+1<=k/\k<=N/\vk=.int .i64 k/\Hid (∀ j,i<=j->j<k->(M.ent a b l i j).isSome=true)/\Hid (eW w N a b x1 x2 x3 pb (dh N (M.done i k) (M.fe a b l)) wq)) (fun vk _=>N - (intOf vk).toNat)
  case atStart=>exact ⟨i+1,IY _,ω,ν,IU (fun j h1 h2=>by obtain rfl:j=i:=ω;exact hsm.out),IU hM2⟩
  case round=>
  clear hM2;obtain ⟨k,hk1,hk2,rfl,Jn,hM⟩:=hrel
  by_cases hlt2:k<N
  ·obtain ⟨y,hy⟩:∃ y,l[k]?=some y:=⟨_,List.getElem?_eq_getElem (by have:=hN.out;omega)⟩
   have B:=hM.out.2.2.2;obtain ⟨d0,d1,d2⟩:=(hpt.out.below B) k y hy;have hpy:=hp.out y (List.mem_of_getElem? hy);have he:=sj (a:=a) (b:=b) hx.out hy hk1;clear hy;obtain ⟨y1,y2,y3⟩:=y;simp only [] at d0 d1 d2 hpy he
   have PP:=fun W=>yW a b x1 x2 x3 y1 y2 y3 W hg hpx hpy
   generalize d7 a b x1 x2 x3 y1 y2 y3=ss at *;have hni:=hno.out i k (by have:=hN.out;omega) (by have:=hN.out;omega);rw [he] at hni;have C:=hM.out.2.1;have Z:=hM.out.2.2.1.2;have hgs:=hM.out.1.size ω
   have hkk:((k:Nat):Int)<(N:Int):=ω
   have hlt3:i<k:=hk1
   obtain ⟨q1,e1⟩:∃ x,Hid (M.Iy ss=x):=⟨_,IU rfl⟩
   obtain ⟨q2,e2⟩:∃ x,Hid (M.I3 ss=x):=⟨_,IU rfl⟩
   obtain ⟨fs,e5⟩:∃ x,Hid (ss.isSome=x):=⟨_,IU rfl⟩
   rw [e1.out,e2.out,e5.out] at PP;replace PP:=IU PP
   go_upto_region 17 with fail
   refine Cp 10 11 74 #[(0:Int),(0:Int)] #[q1,q2] [.is (.agg #[a,b]),.is (.agg #[x1,x2,x3]),.is (.slice (some ⟨g,o_,none⟩) N cap),.is (.int .i64 ((k:Nat):Int)),.is (.pointer (some ⟨g,o_+k*3,none⟩)),.is (.agg #[y1,y2,y3]),.is (.tuple #[.agg #[q1,q2],fs]),.is (.tuple #[.agg #[q1,q2],fs]),.is (.agg #[q1,q2]),.is fs,.is (undef),.is (undef),.is fs] κ κ κ (fun j h1 h2=>match j,h1,h2 with | 0,h1,h2=>rfl | 1,h1,h2=>rfl | 2,h1,h2=>rfl | 3,h1,h2=>rfl | 4,h1,h2=>rfl | 5,h1,h2=>rfl | 6,h1,h2=>rfl | 7,h1,h2=>rfl | 8,h1,h2=>rfl | 9,h1,h2=>rfl | 10,h1,h2=>absurd rfl h1 | 11,h1,h2=>absurd rfl h2 | 12,h1,h2=>rfl | n+13,_,_=>rfl) δ ⟨?_,?_,?_,?_,?_,?_,?_,?_,?_,?_,?_,?_,?_,trivial⟩ ?_
   ·unfold ak
    rw [if_neg δ,if_neg δ];intro zZ w_ hB hr;have e2:zZ.tmps[2]?=some (.pointer (some ⟨w,0,none⟩)):=hr 2 δ;have k0:=aE hB C.box.c0;have k1:=aE hB C.box.c1;exact aU rfl γ
   ·unfold ak
    rw [if_neg δ,if_neg δ];intro zZ w_ hB hr;have e9:zZ.tmps[9]?=some (.pointer (some ⟨pb,0,none⟩)):=hr 9 δ;have k0:=aE hB Z.aM.1;have k1:=aE hB Z.aM.2.1;have k2:=aE hB Z.aM.2.2;exact aU rfl γ
   ·unfold ak
    rw [if_neg δ,if_neg δ];intro zZ w_ hB hr;have e1:zZ.tmps[1]?=some (.slice (some ⟨g,o_,none⟩) N cap):=hr 1 δ;exact aU rfl γ
   ·unfold ak
    rw [if_neg δ,if_neg δ];intro zZ w_ hB hr;have e12:zZ.tmps[12]?=some (.int .i64 ((k:Nat):Int)):=hr 12 δ;exact aU rfl γ
   ·unfold ak
    rw [if_neg δ,if_neg δ];intro zZ w_ hB hr;have e63:=Rg.t_ (hr 63 δ);have e64:=Rg.t_ (hr 64 δ);exact aU rfl (by first | (go_simp;done) | (go_simp;omega))
   ·unfold ak
    rw [if_neg δ,if_neg δ];intro zZ w_ hB hr;have e65:=Rg.t_ (hr 65 δ);have k0:=aE hB d0;have k1:=aE hB d1;have k2:=aE hB d2;exact aU rfl (by first | (go_simp;done))
   ·unfold ak
    rw [if_neg δ,if_neg δ];intro zZ w_ hB hr;have e61:=Rg.t_ (hr 61 δ);have e62:=Rg.t_ (hr 62 δ);have e66:=Rg.t_ (hr 66 δ);have ef:=Rg.ef zZ;exact bp rfl γ (PP.out _)
   ·unfold ak
    rw [if_neg δ,if_neg δ];intro zZ w_ hB hr;have e67:=Rg.t_ (hr 67 δ);exact aU rfl γ
   ·unfold ak
    rw [if_neg δ,if_neg δ];intro zZ w_ hB hr;have e60:=Rg.t_ (hr 60 δ);exact aU rfl γ
   ·unfold ak
    rw [if_neg δ,if_neg δ];intro zZ w_ hB hr;have e60:=Rg.t_ (hr 60 δ);exact aU rfl γ
   ·unfold ak
    rw [if_pos rfl];intro zZ w_;exact nH rfl (by first | (go_simp;done) | (go_simp;rfl))
   ·unfold ak
    rw [if_neg δ,if_pos rfl];intro zZ w_ h_ hh hn hr;have e13:zZ.tmps[13]?=some (.pointer (some ⟨h_,0,none⟩)):=hr 13 δ;have e68:=Rg.t_ (hr 68 δ);have ⟨y0,y1,x0,x1,_⟩:=hn.box;refine ⟨rfl,?_⟩;unfold Oper.wp;go_simp
    exact ⟨aG.set2 hn _ _,IW (IW (IX _ _) hh _) hh _⟩
   ·unfold ak
    rw [if_neg δ,if_neg δ];intro zZ w_ hB hr;have e69:=Rg.t_ (hr 69 δ);exact aU rfl γ
   intro vals wz h_ hh hn JJ hB hv;have KG:vals 12=.bool fs:=hv 12 δ δ δ;simp only [bD,Rg.fill,Act.put,Nat.reduceAdd];clear hv;simp only [JJ,KG];clear JJ KG
   cases ss with
   | none=>
    have hfin:=IU (hni rfl);have hfr:=IU (hrn.out hfin.out);obtain rfl:false=fs:=e5.out;clear hni hno hrn he e1 e2 e5;go_wp2;go_ret2;exact ⟨_,by rw [hfin.out];rfl,by rw [hfr.out];exact fQ.nil _ _,j_ B hB⟩
   | some q=>
   have hqe:M.fe a b l i k=q:=by unfold M.fe;rw [he];rfl
   have hqe:=IU hqe;have YB:=IU (show (M.ent a b l i k).isSome=true by rw [he];rfl);obtain ⟨q3,q4⟩:=q;obtain rfl:q1=q3:=e1.out.symm;obtain rfl:q2=q4:=e2.out.symm;obtain rfl:true=fs:=e5.out;clear hni he e1 e2 e5;have hM2:=IU (hM.out.below hB);have hS:=IU (show gU w N h_ (q1,q2) wz from ⟨ω,hn⟩);clear hn hB hM d0 d1 d2 PP C Z B
   go_upto_region 20 with fail
   have hkk4:((k:Nat):Int)<=4:=ω
   refine FV (fun n W=>eW w N a b x1 x2 x3 pb (dh N (IO i k n) (M.fe a b l)) W/\gU w N h_ (q1,q2) W) [13,15] [.slice (some ⟨w.heap.size+1,0,none⟩) N N,.int .i64 ((i:Nat):Int),.pointer (some ⟨w.heap.size+1,i,none⟩),.slice (some ⟨w.heap.size+1+1+i,0,none⟩) N N,.int .i64 ((k:Nat):Int),.slice (some ⟨w.heap.size+1,0,none⟩) N N,.int .i64 ((k:Nat):Int),.pointer (some ⟨w.heap.size+1,k,none⟩),.slice (some ⟨w.heap.size+1+1+k,0,none⟩) N N,.int .i64 ((i:Nat):Int),.agg #[q1,q2],.agg #[q1,q2],.pointer (some ⟨w.heap.size+1+1+i,k*2,none⟩),undef,.pointer (some ⟨w.heap.size+1+1+k,i*2,none⟩),undef] κ κ κ δ (⟨hM2.out.below (IX _ wz).drew,hS.out.below (IX _ wz).drew⟩) ⟨?_,?_,?_,?_,?_,?_,?_,?_,?_,?_,?_,?_,?_,?_,?_,?_,trivial⟩ ?_
   ·unfold bw
    rw [if_neg δ];intro zZ w_ n_ Jh hJ hr;refine ⟨rfl,?_⟩;have e6:zZ.tmps[6]?=some (.slice (some ⟨w.heap.size+1,0,none⟩) N N):=hr 6 δ;go_simp
   ·unfold bw
    rw [if_neg δ];intro zZ w_ n_ Jh hJ hr;refine ⟨rfl,?_⟩;have e8:zZ.tmps[8]?=some (.int .i64 ((i:Nat):Int)):=hr 8 δ;go_simp
   ·unfold bw
    rw [if_neg δ];intro zZ w_ n_ Jh hJ hr;refine ⟨rfl,?_⟩;have e72:zZ.tmps[72]?=some (.slice (some ⟨w.heap.size+1,0,none⟩) N N):=hr 72 δ;have e73:zZ.tmps[73]?=some (.int .i64 ((i:Nat):Int)):=hr 73 δ
    have Kn:((i:Nat):Int)<(N:Int):=ω
    first | (go_simp;done) | (go_simp;omega)
   ·unfold bw
    rw [if_neg δ];intro zZ w_ n_ Jh hJ hr;refine ⟨rfl,?_⟩;have e74:zZ.tmps[74]?=some (.pointer (some ⟨w.heap.size+1,i,none⟩)):=hr 74 δ;have hr_:=fb.row hJ.1.1 (i:=i) ω
    first | (go_simp;done)
   ·unfold bw
    rw [if_neg δ];intro zZ w_ n_ Jh hJ hr;refine ⟨rfl,?_⟩;have e12:zZ.tmps[12]?=some (.int .i64 ((k:Nat):Int)):=hr 12 δ;go_simp
   ·unfold bw
    rw [if_neg δ];intro zZ w_ n_ Jh hJ hr;refine ⟨rfl,?_⟩;have e6:zZ.tmps[6]?=some (.slice (some ⟨w.heap.size+1,0,none⟩) N N):=hr 6 δ;go_simp
   ·unfold bw
    rw [if_neg δ];intro zZ w_ n_ Jh hJ hr;refine ⟨rfl,?_⟩;have e12:zZ.tmps[12]?=some (.int .i64 ((k:Nat):Int)):=hr 12 δ;go_simp
   ·unfold bw
    rw [if_neg δ];intro zZ w_ n_ Jh hJ hr;refine ⟨rfl,?_⟩;have e77:zZ.tmps[77]?=some (.slice (some ⟨w.heap.size+1,0,none⟩) N N):=hr 77 δ;have e78:zZ.tmps[78]?=some (.int .i64 ((k:Nat):Int)):=hr 78 δ
    have Kn:((k:Nat):Int)<(N:Int):=ω
    first | (go_simp;done) | (go_simp;omega)
   ·unfold bw
    rw [if_neg δ];intro zZ w_ n_ Jh hJ hr;refine ⟨rfl,?_⟩;have e79:zZ.tmps[79]?=some (.pointer (some ⟨w.heap.size+1,k,none⟩)):=hr 79 δ;have hr_:=fb.row hJ.1.1 (i:=k) ω
    first | (go_simp;done)
   ·unfold bw
    rw [if_neg δ];intro zZ w_ n_ Jh hJ hr;refine ⟨rfl,?_⟩;have e8:zZ.tmps[8]?=some (.int .i64 ((i:Nat):Int)):=hr 8 δ;go_simp
   ·unfold bw
    rw [if_neg δ];intro zZ w_ n_ Jh hJ hr;refine ⟨rfl,?_⟩;have e13:zZ.tmps[13]?=some (.pointer (some ⟨h_,0,none⟩)):=hr 13 δ;have k0:=hJ.2.2.box.c0;have k1:=hJ.2.2.box.c1;go_simp
   ·unfold bw
    rw [if_neg δ];intro zZ w_ n_ Jh hJ hr;refine ⟨rfl,?_⟩;have e13:zZ.tmps[13]?=some (.pointer (some ⟨h_,0,none⟩)):=hr 13 δ;have k0:=hJ.2.2.box.c0;have k1:=hJ.2.2.box.c1;go_simp
   ·unfold bw
    rw [if_neg δ];intro zZ w_ n_ Jh hJ hr;refine ⟨rfl,?_⟩;have e75:zZ.tmps[75]?=some (.slice (some ⟨w.heap.size+1+1+i,0,none⟩) N N):=hr 75 δ;have e76:zZ.tmps[76]?=some (.int .i64 ((k:Nat):Int)):=hr 76 δ
    have Kn:((k:Nat):Int)<(N:Int):=ω
    first | (go_simp;done) | (go_simp;omega)
   ·unfold bw
    rw [if_pos δ];intro zZ w_ hJ hr;have e82:zZ.tmps[82]?=some (.agg #[q1,q2]):=hr 82 δ;have e84:zZ.tmps[84]?=some (.pointer (some ⟨w.heap.size+1+1+i,k*2,none⟩)):=hr 84 δ;refine ⟨rfl,?_⟩;obtain ⟨LI,Of⟩:=hJ;have LI:eW w N a b x1 x2 x3 pb (dh N (M.done i k) (M.fe a b l)) w_:=LI;have ⟨y0,y1,Ou,KA,xl_⟩:=fb.cells LI.1 (i:=i) (j:=k) (eU _ _ ω) (fa _ _ ω)
    have Kn:((k:Nat):Int)<(N:Int):=ω
    have LH:=eW.put LI (i:=i) (j:=k) (q:=(q1,q2)) (rows':=dh N (M.half i k) (M.fe a b l)) (eU _ _ ω) ω (by rw [←hqe.out];exact EC _ ω ω);have M7:=gU.put Of (i:=i) (j1:=k*2) (j2:=k*2+1) (u:=.int .i64 q1) (v:=.int .i64 q2) ω;clear LI Of;unfold Oper.wp;go_simp
    all_goals first | exact LH | exact ⟨LH,M7⟩
   ·unfold bw
    rw [if_neg δ];intro zZ w_ n_ Jh hJ hr;refine ⟨rfl,?_⟩;have e80:zZ.tmps[80]?=some (.slice (some ⟨w.heap.size+1+1+k,0,none⟩) N N):=hr 80 δ;have e81:zZ.tmps[81]?=some (.int .i64 ((i:Nat):Int)):=hr 81 δ
    have Kn:((i:Nat):Int)<(N:Int):=ω
    first | (go_simp;done) | (go_simp;omega)
   ·unfold bw
    rw [if_pos δ];intro zZ w_ hJ hr;have e83:zZ.tmps[83]?=some (.agg #[q1,q2]):=hr 83 δ;have e85:zZ.tmps[85]?=some (.pointer (some ⟨w.heap.size+1+1+k,i*2,none⟩)):=hr 85 δ;refine ⟨rfl,?_⟩;obtain ⟨LI,Of⟩:=hJ;have LI:eW w N a b x1 x2 x3 pb (dh N (M.half i k) (M.fe a b l)) w_:=LI;have ⟨y0,y1,Ou,KA,xl_⟩:=fb.cells LI.1 (i:=k) (j:=i) (eU _ _ ω) (fa _ _ ω)
    have Kn:((i:Nat):Int)<(N:Int):=ω
    have LH:=eW.put LI (i:=k) (j:=i) (q:=(q1,q2)) (rows':=dh N (M.done i (k+1)) (M.fe a b l)) (eU _ _ ω) ω (by rw [←hqe.out];exact ED _ (F3 _ _ _ _ _) ω ω);have M7:=gU.put Of (i:=k) (j1:=i*2) (j2:=i*2+1) (u:=.int .i64 q1) (v:=.int .i64 q2) ω;clear LI Of;unfold Oper.wp;go_simp
    all_goals first | exact LH | exact ⟨LH,M7⟩
   intro vals wy hJ hv;simp only [bD,Rg.fill,Act.put,Nat.reduceAdd];clear hv;obtain ⟨Ks,-⟩:=hJ;have Ks:eW w N a b x1 x2 x3 pb (dh N (M.done i (k+1)) (M.fe a b l)) wy:=Ks;clear hM2 hS hqe;go_wp2
   go_roundw
   case rel=>exact ⟨k+1,ω,ω,ν,IU (fun j h1 h2=>by
    rcases Nat.lt_or_ge j k with h3 | h3
    ·exact Jn.out j h1 h3
    obtain rfl:j=k:=ω
    exact YB.out),IU Ks⟩
   case measure=>simp [intOf] <;> omega
  obtain rfl:N=k:=ω
  have Ks:=hM.out;have hd:=xw (n:=N) (i:=i) (M.fe a b l);have hG3:=Ks.1;rw [hd] at hG3;have hG3:=IU hG3;clear hd
  have hal:∀ i',i'<i+1->∀ j,j<l.length->(M.ent a b l i' j).isSome=true:=fun i' h j hj=>by
   rcases Nat.lt_or_ge i' i with q | q
   ·exact hall.out i' q j hj
   obtain rfl:i'=i:=ω
   rcases Nat.lt_or_ge j i' with q2 | q2
   ·rw [mR];exact hall.out j q2 i' (by have:=hN.out;omega)
   exact Jn.out j q2 (by have:=hN.out;omega)
  have hal:=IU hal;have C3:=Ks.2.1;have B3:=Ks.2.2.2;clear Ks hM;go_wp2
  go_roundw
  case rel=>exact ⟨i+1,ω,ν,hal,hG3,C3,B3⟩
  case measure=>simp [intOf] <;> omega
 obtain rfl:N=i:=ω
 have hyes:=IU (wl (a:=a) (b:=b) (l:=l) (fun i' h=>hall.out i' (by have:=hN.out;omega)));have hrows:=IU (yV hyes.out);have hG4:=hG.out.mat (base:=w.heap.size) ω ω;have hG4:=IU hG4;clear hG;go_wp2;go_ret2;exact ⟨_,by rw [hyes.out];rfl,by rw [hrows.out,hN.out];exact hG4.out,B⟩
theorem Rw.From.below {α:Type} {E:Rw.Enc α} {w w':World} {A:Option Addr} {ys:List α} (h:Rw.From E w A ys) (hb:Below w w w'):Rw.From E w' A ys:=fun j u hu=>by
 obtain ⟨ad,e,hc⟩:=h j u hu;exact ⟨ad,e,aE hb hc⟩
theorem DX (n:Nat) (h1:1<=n) (h2:n<=4) (w:World) :
  Calls prog 133 #[.slice none 0 0,.int .i64 (n:Int)] w fun e w'=>∃ v,e=.returned v/\Rw.Own EP w' w v []/\Below w w w':=by
 obtain ⟨i0,hi,hz0,hz1,hz2⟩:=info_parts BJ;have hc:=Any8.slices_Grow_grow Tryz.growP i0 _ hi hz0 ω none 0 0 n [] w (IY _) ω (by rw [hz2];omega) ω σ (fun _=>rfl) (fun a h=>by cases h);refine Calls.mono hc ?_;rintro e w' ⟨rfl,rfl⟩;refine ⟨_,rfl,⟨rfl,Or.inr ⟨w,_,_,rfl,IY _,heap_alloc_new w.drew _,Nat.zero_le _,grownCap_le_maxLen w _ 0 _ (by unfold maxLen;omega),?_,rfl⟩⟩,((IX _ w).drew).alloc (IY _) _⟩;have hG:=grownCap_ge w (0+n) 0 (Tryz.growP_ren.t 25);have hk:EP.k=2:=rfl;simp only [Array.size_append,size_zeroCells,hk];simp only [List.size_toArray,List.length_nil,Value.cells]
 show 0+(0+n - 0)*2+(_ - (0+n))*2=_*2
 omega
theorem AJ (h n1 c1 n2 c2:Nat) (a1 a2:Option Addr) (r1 r2:List (Int × Int)) (w:World) (k0:w.cell? ⟨h,0,none⟩=some (.slice a1 n1 c1)) (k1:w.cell? ⟨h,1,none⟩=some (.slice a2 n2 c2))
  (hn1:r1.length=n1) (hn2:r2.length=n2) (F1:Rw.From EP w a1 r1) (F2:Rw.From EP w a2 r2) (h1:1<=n1+n2) (h2:n1+n2<=4) :
  Calls prog 112 #[.slice (some ⟨h,0,none⟩) 2 2] w fun e w'=>∃ v,e=.returned v/\Rw.Own EP w' w v (r1 ++ r2)/\Below w w w':=by
 have PG:=IU fun W=>DX (n1+n2) h1 h2 W
 have F1:=IU F1;have F2:=IU F2;have hn1:=IU hn1;have hn2:=IU hn2
 have i1:(n1:Int)<=4:=ω
 have i2:(n2:Int)<=4:=ω
 go_enter func112,ntmps112
 go_wp2
 go_loopw [3,11] (fun vs vk wr=>w=wr/\((vk=.int .i64 0/\vs=.int .i64 0)∨(vk=.int .i64 1/\vs=.int .i64 (n1:Int))∨(vk=.int .i64 2/\vs=.int .i64 ((n1:Int)+n2)))) (fun _ vk _=>2 - (intOf vk).toNat)
 case atStart=>exact ⟨rfl,Or.inl ⟨rfl,rfl⟩⟩
 case round=>
 obtain ⟨rfl,hrel⟩:=hrel
 rcases hrel with ⟨rfl,rfl⟩ | ⟨rfl,rfl⟩ | ⟨rfl,rfl⟩
 ·go_wp2
  go_roundw
  case rel=>exact ⟨trivial,Or.inr (Or.inl ⟨rfl,ν⟩)⟩
  case measure=>simp [intOf]
 ·go_wp2
  go_roundw
  case rel=>exact ⟨trivial,Or.inr (Or.inr ⟨rfl,ν⟩)⟩
  case measure=>simp [intOf]
 replace PG:=IU (fun W x (hx:x=((n1:Int)+n2))=>(by subst hx;exact PG.out W:Calls prog 133 #[.slice none 0 0,x] W fun e w'=>∃ v,e=.returned v/\Rw.Own EP w' W v []/\Below W W w'))
 go_wp2_with (go_at_call 133;refine (PG.out _ _ ω).mono ?_;rintro e w4 ⟨v4,rfl,Iq,hb4⟩)
 go_loopw [6,27] (fun vo vk wq=>Below w w wq/\((vk=.int .i64 0/\Hid (Rw.Own EP wq w vo []))∨(vk=.int .i64 1/\Hid (Rw.Own EP wq w vo r1))∨(vk=.int .i64 2/\Hid (Rw.Own EP wq w vo (r1 ++ r2))))) (fun _ vk _=>2 - (intOf vk).toNat)
 case atStart=>exact ⟨hb4,Or.inl ⟨rfl,IU Iq⟩⟩
 case round=>
 clear hb4 Iq;obtain ⟨B,hrel⟩:=hrel;have y0:=aE B k0;have y1:=aE B k1
 rcases hrel with ⟨rfl,ho⟩ | ⟨rfl,ho⟩ | ⟨rfl,ho⟩
 ·go_wp2_with (at_builtin;refine Rw.push FA (W:=w) w r1 [] _ a1 n1 c1 hn1.out rfl (.tmp 31) (.tmp 32) rfl rfl rfl (F1.out.below B) ho.out B B.size (by have:=hn1.out;simp only [List.length_nil];omega) ?_;intro v6 w6 hown6 hb6)
  go_roundw
  case rel=>exact ⟨hb6,Or.inr (Or.inl ⟨rfl,IU hown6⟩)⟩
  case measure=>simp [intOf]
 ·go_wp2_with (at_builtin;refine Rw.push FA (W:=w) w r2 r1 _ a2 n2 c2 hn2.out rfl (.tmp 31) (.tmp 32) rfl rfl rfl (F2.out.below B) ho.out B B.size (by have:=hn1.out;have:=hn2.out;omega) ?_;intro v6 w6 hown6 hb6)
  go_roundw
  case rel=>exact ⟨hb6,Or.inr (Or.inr ⟨rfl,IU hown6⟩)⟩
  case measure=>simp [intOf]
 go_wp2;go_ret;exact ⟨_,rfl,ho.out,B⟩
theorem eO {W:World} {base g i k n:Nat} {t T:TypeId} {v:Value} {vs:List Value} {ys:Array Value} (h:W.ownsRow base t k v n vs) (hv:aG W g T ys) (hT:T≠t) (x:Value):(W.setCell ⟨g,i,none⟩ x).ownsRow base t k v n vs:=by
 have hap:v.ownBlock≠some g:=by
  intro e
  rcases h.2 with ⟨rfl,-⟩ | ⟨g1,c1,MY,rfl,-,Mc,-⟩
  ·cases e
  simp only [Value.ownBlock,Option.some.injEq] at e;subst e;unfold aG at hv;rw [Mc] at hv
  injection hv with hv
  injection hv with _ h2
  exact hT h2.symm
 refine World.ownsRow.kept (row:=some g) h ⟨rfl,rfl,rfl,by simp [go_sem],fun k hk hne=>?_⟩ (Or.inr hap);rw [World.setCell]
 show (W.heap.modify g _)[k]?=_
 rw [Array.getElem?_modify,if_neg (fun e=>hne (by rw [e]))]
theorem pP {w W:World} (ty:TypeId) (base:Nat) (u:Value) (r:List (Int × Int)) (vs:List Value) (rows:List (List (Int × Int))) (v:Value)
  (hown:bg w base v vs rows) (hu:Rw.Own EP w base u r) (hnew:∀ g,u.ownBlock=some g->∀ z ∈ vs,z.ownBlock≠some g)
  (hW:Below base W w) (hB:base<=w.heap.size) (hl:rows.length<=1000000000) :
  ∃ v' w',(Builtin.append_ #[98,98] ty #[v,.slice (some ⟨w,0,none⟩) 1 1]).run prog (w.alloc (.cells #[u] 130))=.ok v' w'/\bg w' base v' (vs ++ [u]) (rows ++ [r])/\Below base W w':=by
 obtain ⟨i0,hi,hz0,hz1,hz2⟩:=info_parts BK;obtain ⟨h1,h2,h3,h4⟩:=hown
 obtain ⟨v',w',q1,k1,k2,-,-⟩:=run_append_own_at (P:=prog) (w.alloc (.cells #[u] 130)) base 98 ty 130 i0 (.slice none 0 0) 1 24 Tryz.underlying98 hi hz0 hz1 hz2 rfl δ v rows.length vs (h1.alloc _) ⟨w,0,none⟩ 1 1 [u] rfl (fun j z hz=>by
  have hadd:(⟨w,0,none⟩:Addr).add j=⟨w,j,none⟩:=by unfold Addr.add;split <;> simp_all
  rw [hadd,World.cell?_alloc_at _ _ _ _ rfl]
  simpa using hz) (fun z hz=>by simp only [List.mem_singleton] at hz;subst hz;exact rJ hu) (by unfold maxLen;omega) ω (by rw [IV];omega)
 refine ⟨v',w',q1,⟨by rw [List.length_append];exact k1,by rw [List.length_append,List.length_append,h2];rfl,?_,?_⟩,((hW.alloc hB _).grown k2 (by rw [IV];omega) fun k hk=>(h1.lt k hk).1)⟩
 ·have hal:∀ {z:Value} {q:List (Int × Int)},Rw.Own EP w base z q->Rw.Own EP w' base z q:=by
   intro z q hz;have hz':Rw.Own EP (w.alloc (.cells #[u] 130)) base z q:=World.ownsRow.alloc hz _
   refine hz'.kept k2 fun g hg=>?_
   exact jS (t1:=74) (t2:=130) hz' (World.ownsRow.alloc h1 _) (Ne.symm neP) g hg
  intro i z q hz hq
  by_cases hlt:i<vs.length
  ·rw [List.getElem?_append_left hlt] at hz
   rw [List.getElem?_append_left ω] at hq;exact hal (h3 i z q hz hq)
  rw [List.getElem?_append_right ω] at hz;rw [List.getElem?_append_right ω,←h2] at hq
  have hi0:i - vs.length=0:=by
   rcases Nat.eq_zero_or_pos (i - vs.length) with e | e
   ·exact e
   rw [List.getElem?_eq_none (by simp;omega)] at hz;cases hz
  rw [hi0] at hz hq;simp only [List.getElem?_cons_zero,Option.some.injEq] at hz hq;subst hz hq;exact hal hu
 rw [List.pairwise_append];refine ⟨h4,σ,fun z hz z' hz' g hg hg'=>?_⟩;simp only [List.mem_singleton] at hz';subst hz';exact hnew g hg' z hz hg
theorem bg.ep {W:World} {base g i:Nat} {T:TypeId} {v:Value} {vs:List Value} {rows:List (List (Int × Int))} {ys:Array Value} (h:bg W base v vs rows) (hv:aG W g T ys) (hT:T≠74) (M8:T≠130) (x:Value):bg (W.setCell ⟨g,i,none⟩ x) base v vs rows:=by
 obtain ⟨h1,h2,h3,h4⟩:=h;exact ⟨eO h1 hv M8 x,h2,fun i u r hu hr=>eO (h3 i u r hu hr) hv hT x,h4⟩
theorem fQ.ep {W:World} {base g i:Nat} {T:TypeId} {v:Value} {rows:List (List (Int × Int))} {ys:Array Value} (h:fQ W base v rows) (hv:aG W g T ys) (hT:T≠74) (M8:T≠130) (x:Value):fQ (W.setCell ⟨g,i,none⟩ x) base v rows:=h.elim fun vs k=>⟨vs,k.ep hv hT M8 x⟩
theorem bg.fresh {w w':World} {base b2:Nat} {v u:Value} {vs:List Value} {rows:List (List (Int × Int))} {r:List (Int × Int)} (h:bg w base v vs rows) (hu:Rw.Own EP w' b2 u r) (hb:w.heap.size<=b2):∀ g,u.ownBlock=some g->∀ z ∈ vs,z.ownBlock≠some g:=fun g hg z hz e=>by
 have h1:=(h.lt z hz g e).2;have h2:=(hu.lt g hg).1;omega
theorem Rw.From.cut {α:Type} {E:Rw.Enc α} {w:World} {g:Nat} {r:List α} (h:Rw.From E w (some ⟨g,0,none⟩) r) (c:Nat):Rw.From E w (some ⟨g,0,none⟩) (r.take c):=fun j u hu=>by
 rw [lG,List.getElem?_take] at hu
 split at hu
 ·exact h j u hu
 cases hu
theorem Rw.From.rest {α:Type} {E:Rw.Enc α} {w:World} {g:Nat} {r:List α} (h:Rw.From E w (some ⟨g,0,none⟩) r) (c:Nat):Rw.From E w (some ⟨g,c*E.k,none⟩) (r.drop c):=fun j u hu=>by
 rw [yD,List.getElem?_drop] at hu;obtain ⟨ad,e,hc⟩:=h _ u hu;refine ⟨_,rfl,?_⟩;have:=Option.some.inj e;subst this
 have SG:∀ b i j:Nat,(⟨b,i,none⟩:Addr).add j=⟨b,i+j,none⟩:=fun b i j=>by unfold Addr.add;split <;> simp_all
 rw [SG] at hc ⊢;rw [Nat.zero_add] at hc;exact hc
theorem Rw.From.xM {α:Type} {E:Rw.Enc α} {w:World} {g:Nat} {r:List α} (h:Rw.From E w (some ⟨g,0,none⟩) r) (c cap:Nat) (hl:r.length<=cap):Rw.From E w (if cap=c then some ⟨g,0,none⟩ else some ⟨g,c*E.k,none⟩) (r.drop c):=by
 by_cases hc:cap=c
 ·rw [if_pos hc,List.drop_eq_nil_of_le ω]
  exact Rw.From.nil E w _
 rw [if_neg hc];exact h.rest c
theorem pO {w W:World} (ty:TypeId) (base:Nat) (u:Value) (r:List (Int × Int × Int × Int)) (vs:List Value) (rows:List (List (Int × Int × Int × Int))) (v:Value)
  (hown:b9 w base v vs rows) (hu:Rw.Own EN w base u r) (hnew:∀ g,u.ownBlock=some g->∀ z ∈ vs,z.ownBlock≠some g)
  (hW:Below base W w) (hB:base<=w.heap.size) (hl:rows.length<=1000000000) :
  ∃ v' w',(Builtin.append_ #[105,105] ty #[v,.slice (some ⟨w,0,none⟩) 1 1]).run prog (w.alloc (.cells #[u] 136))=.ok v' w'/\b9 w' base v' (vs ++ [u]) (rows ++ [r])/\Below base W w':=by
 obtain ⟨i0,hi,hz0,hz1,hz2⟩:=info_parts BI;obtain ⟨h1,h2,h3,h4⟩:=hown
 obtain ⟨v',w',q1,k1,k2,-,-⟩:=run_append_own_at (P:=prog) (w.alloc (.cells #[u] 136)) base 105 ty 136 i0 (.slice none 0 0) 1 24 Tryz.underlying105 hi hz0 hz1 hz2 rfl δ v rows.length vs (h1.alloc _) ⟨w,0,none⟩ 1 1 [u] rfl (fun j z hz=>by
  have hadd:(⟨w,0,none⟩:Addr).add j=⟨w,j,none⟩:=by unfold Addr.add;split <;> simp_all
  rw [hadd,World.cell?_alloc_at _ _ _ _ rfl]
  simpa using hz) (fun z hz=>by simp only [List.mem_singleton] at hz;subst hz;exact rJ hu) (by unfold maxLen;omega) ω (by rw [IV];omega)
 refine ⟨v',w',q1,⟨by rw [List.length_append];exact k1,by rw [List.length_append,List.length_append,h2];rfl,?_,?_⟩,((hW.alloc hB _).grown k2 (by rw [IV];omega) fun k hk=>(h1.lt k hk).1)⟩
 ·have hal:∀ {z:Value} {q:List (Int × Int × Int × Int)},Rw.Own EN w base z q->Rw.Own EN w' base z q:=by
   intro z q hz;have hz':Rw.Own EN (w.alloc (.cells #[u] 136)) base z q:=World.ownsRow.alloc hz _
   refine hz'.kept k2 fun g hg=>?_
   exact jS (t1:=78) (t2:=136) hz' (World.ownsRow.alloc h1 _) (Ne.symm neN) g hg
  intro i z q hz hq
  by_cases hlt:i<vs.length
  ·rw [List.getElem?_append_left hlt] at hz
   rw [List.getElem?_append_left ω] at hq;exact hal (h3 i z q hz hq)
  rw [List.getElem?_append_right ω] at hz;rw [List.getElem?_append_right ω,←h2] at hq
  have hi0:i - vs.length=0:=by
   rcases Nat.eq_zero_or_pos (i - vs.length) with e | e
   ·exact e
   rw [List.getElem?_eq_none (by simp;omega)] at hz;cases hz
  rw [hi0] at hz hq;simp only [List.getElem?_cons_zero,Option.some.injEq] at hz hq;subst hz hq;exact hal hu
 rw [List.pairwise_append];refine ⟨h4,σ,fun z hz z' hz' g hg hg'=>?_⟩;simp only [List.mem_singleton] at hz';subst hz';exact hnew g hg' z hz hg
theorem b9.ep {W:World} {base g i:Nat} {T:TypeId} {v:Value} {vs:List Value} {rows:List (List (Int × Int × Int × Int))} {ys:Array Value} (h:b9 W base v vs rows) (hv:aG W g T ys) (hT:T≠78) (M8:T≠136) (x:Value):b9 (W.setCell ⟨g,i,none⟩ x) base v vs rows:=by
 obtain ⟨h1,h2,h3,h4⟩:=h;exact ⟨eO h1 hv M8 x,h2,fun i u r hu hr=>eO (h3 i u r hu hr) hv hT x,h4⟩
theorem eV.ep {W:World} {base g i:Nat} {T:TypeId} {v:Value} {rows:List (List (Int × Int × Int × Int))} {ys:Array Value} (h:eV W base v rows) (hv:aG W g T ys) (hT:T≠78) (M8:T≠136) (x:Value):eV (W.setCell ⟨g,i,none⟩ x) base v rows:=h.elim fun vs k=>⟨vs,k.ep hv hT M8 x⟩
theorem b9.fresh {w w':World} {base b2:Nat} {v u:Value} {vs:List Value} {rows:List (List (Int × Int × Int × Int))} {r:List (Int × Int × Int × Int)} (h:b9 w base v vs rows) (hu:Rw.Own EN w' b2 u r) (hb:w.heap.size<=b2):∀ g,u.ownBlock=some g->∀ z ∈ vs,z.ownBlock≠some g:=fun g hg z hz e=>by
 have h1:=(h.lt z hz g e).2;have h2:=(hu.lt g hg).1;omega
namespace M
def iY (ok:Bool) (n:Nat) (m:JE) (c:Nat):Sp:=if c=0 then some (0,0) else gd ok (eJ n m c)
def iX (ok:Bool) (n:Nat) (m:JE):Sp:=if n=1 then dN 1 m else gd ok (dN n m)
theorem EZ {ok:Bool} {n:Nat} {m:JE} {c:Nat}:Jo (iY ok n m c):=by
 unfold iY
 split
 ·intro p hp
  have:(0,0)=p:=Option.some.inj hp;subst this
  decide
 exact lP (rH _)
theorem xY {ok:Bool} {n:Nat} {m:JE} {c:Nat} (h:(ok && (eJ n m c).isSome)=true):iY ok n m c=eJ n m c:=by
 rw [Bool.and_eq_true] at h;unfold iY
 split
 ·rename_i hc;subst hc;rfl
 rw [h.1];rfl
theorem wE {ok:Bool} {n:Nat} {m:JE} (h:(ok && (dN n m).isSome)=true):iX ok n m=dN n m:=by
 rw [Bool.and_eq_true] at h;unfold iX
 split
 ·rename_i hc;subst hc;rfl
 rw [h.1];rfl
theorem DI {ok:Bool} {n:Nat} {m:JE} (h:Qh m):Jo (iX ok n m):=by
 unfold iX
 split
 ·exact mY h 1
 exact lP (mY h _)
theorem xv {ok fc f1:Bool} {n c:Nat} {m:JE} {q:Int × Int} {u1 u2:Sp} (hfc:fc=(ok && (eJ n m c).isSome)) (hf1:f1=(fc && (dN (n+1) (bq m c)).isSome)) (hu1:u1=iX fc (n+1) (bq m c)) (hq:(m.headD [])[c]?=some q) (hu2:u2=gd f1 (gF (some q) u1)) :
  gd u2.isSome (fH (iY ok n m c) u2 c)=iY ok n m (c+1)/\(gd u2.isSome (fH (iY ok n m c) u2 c)).isSome=(ok && (eJ n m (c+1)).isSome):=by
 have e:iY ok n m (c+1)=gd ok (eJ n m (c+1)):=if_neg ω
 have key:gd u2.isSome (fH (iY ok n m c) u2 c)=gd ok (eJ n m (c+1)):=by
  rw [g5,hq]
  cases ok with
  | false=>
   have:f1=false:=by rw [hf1,hfc];rfl
   rw [hu2,this];rfl
  | true=>
  cases hS:eJ n m c with
  | none=>
   have:f1=false:=by rw [hf1,hfc,hS];rfl
   rw [hu2,this,j9];rfl
  | some s=>
  cases hD:dN (n+1) (bq m c) with
  | none=>
   have:f1=false:=by rw [hf1,hD,Bool.and_comm];rfl
   have e2:gF (some q) none=none:=rfl;rw [hu2,this,e2,eB];rfl
  | some d=>
  have h1:fc=true:=by rw [hfc,hS];rfl
  have h2:f1=true:=by rw [hf1,h1,hD];rfl
  have h3:u1=some d:=by rw [hu1,wE (by rw [h1,hD];rfl),hD]
  have h4:iY true n m c=some s:=by rw [xY (by rw [hS];rfl),hS]
  rw [h4,hu2,h2,h3]
  show gd (gF (some q) (some d)).isSome (fH (some s) (gF (some q) (some d)) c)=fH (some s) (gF (some q) (some d)) c
  cases gF (some q) (some d) with
  | none=>rw [eB];rfl
  | some u=>rfl
 exact ⟨key.trans e.symm,by rw [key];cases ok <;> rfl⟩
theorem yw {ok:Bool} {n:Nat} {m:JE} {c:Nat} (h:(ok && (eJ n m c).isSome)=true):(iY ok n m c).isSome=true:=by
 rw [xY h];rw [Bool.and_eq_true] at h;exact h.2
theorem xr {ok:Bool} {n:Nat} {m:JE} (h:(ok && (dN n m).isSome)=true):(iX ok n m).isSome=true:=by
 rw [wE h];rw [Bool.and_eq_true] at h;exact h.2
theorem Ce {ok:Bool} {n:Nat} {m:JE} (hm:square (n+2) m):iY ok n m (n+2)=iX ok (n+2) m/\(ok && (eJ n m (n+2)).isSome)=(ok && (dN (n+2) m).isSome):=by
 have hl:(m.headD []).length=n+2:=by
  cases m with
  | nil=>have:=hm.1;simp only [List.length_nil] at this;omega
  | cons r m=>exact hm.2 r (List.mem_cons_self ..)
 have e:dN (n+2) m=eJ n m (n+2):=by rw [iI,hl]
 unfold iY iX;rw [if_neg ω,if_neg ω,e];exact ⟨rfl,rfl⟩
theorem yQ {m:JE} {c i:Nat} {r:List (Int × Int)} (h:m[i+1]?=some r):(bq m c)[i]?=some (r.take c ++ r.drop (c+1)):=by
 unfold bq;rw [List.getElem?_map,List.getElem?_tail,h];rfl
theorem uv {m:JE} {c n:Nat} (h:m.length=n+1):(bq m c).length=n:=by
 unfold bq;rw [List.length_map,List.length_tail,h];rfl
theorem lZ {α:Type} {l:List α} {i:Nat} {x:α} (h:l[i]?=some x):l.take (i+1)=l.take i ++ [x]:=by
 rw [List.take_add_one,h];rfl
end M
theorem bg.rowIs {w:World} {base:Nat} {v:Value} {vs:List Value} {rows:List (List (Int × Int))} (h:bg w base v vs rows) {i:Nat} {r:List (Int × Int)} (hr:rows[i]?=some r) (hne:r≠[]) :
  ∃ (g2 cap2:Nat),vs[i]?=some (.slice (some ⟨g2,0,none⟩) r.length cap2)/\r.length<=cap2/\g2<w.heap.size:=by
 have hi:=(List.getElem?_eq_some_iff.1 hr).1;have hl:=h.2.1;have hu:vs[i]?=some (vs[i]' ω):=List.getElem?_eq_getElem ω
 rcases (h.2.2.1 i _ r hu hr).forms with ⟨-,h4⟩ | ⟨g2,cap2,e,hg,hg2,hc2,-⟩
 ·exact absurd h4 hne
 exact ⟨g2,cap2,by rw [hu,e],hc2,hg2⟩
theorem bg.form {w:World} {base:Nat} {v:Value} {vs:List Value} {rows:List (List (Int × Int))} (h:bg w base v vs rows) (hne:rows≠[]):∃ (g cap:Nat),v=.slice (some ⟨g,0,none⟩) rows.length cap/\rows.length<=cap/\cap<=9223372036854775807/\g<w.heap.size:=by
 rcases h.1.2 with ⟨-,h2⟩ | ⟨g,cap,cur,e,hg,hh,hc,hm,-⟩
 ·exact absurd (List.eq_nil_of_length_eq_zero h2) hne
 exact ⟨g,cap,e,hc,by unfold maxLen at hm;omega,(Array.getElem?_eq_some_iff.1 hh).1⟩
theorem bg.kd {w:World} {base g n cap:Nat} {vs:List Value} {rows:List (List (Int × Int))} (h:bg w base (.slice (some ⟨g,0,none⟩) n cap) vs rows) {i:Nat} {u:Value} (hu:vs[i]?=some u):w.cell? ⟨g,i,none⟩=some u:=by
 have hi:=(List.getElem?_eq_some_iff.1 hu).1;have hl:=h.2.1;have h1:=h.1
 rcases h1.2 with ⟨e,-⟩ | ⟨g1,c1,MY,e,-⟩
 ·cases e
 injection e with _ e2 _
 subst e2;exact (World.ownsRow.cellAt h1 i ω).trans hu
theorem bg.rowFrom {w:World} {base:Nat} {v:Value} {vs:List Value} {rows:List (List (Int × Int))} (h:bg w base v vs rows) {i g2 cap2 n2:Nat} {r:List (Int × Int)} (hu:vs[i]?=some (.slice (some ⟨g2,0,none⟩) n2 cap2)) (hr:rows[i]?=some r):Rw.From EP w (some ⟨g2,0,none⟩) r:=by
 have ho:=h.2.2.1 i _ r hu hr
 rcases ho.forms with ⟨e,-⟩ | ⟨g3,Ry,e,hg,hg3,hc3,-⟩
 ·cases e
 injection e with e1 e2 e3
 have:=ho.FN e2 (ho.lt g2 rfl).2 (IX _ w) r.length;rw [List.take_length] at this;exact this
theorem Rw.From.at2 {w:World} {g c:Nat} {r:List (Int × Int)} {q:Int × Int} (h:Rw.From EP w (some ⟨g,0,none⟩) r) (hq:r[c]?=some q):w.cell? ⟨g,c*2,none⟩=some (.int .i64 q.1)/\w.cell? ⟨g,c*2+1,none⟩=some (.int .i64 q.2):=by
 have hadd:∀ b i:Nat,(⟨b,0,none⟩:Addr).add i=⟨b,i,none⟩:=fun b i=>by unfold Addr.add;split <;> simp_all
 have hc:∀ (t:Nat) (u:Value),t<2->(EP.cells q)[t]?=some u->w.cell? ⟨g,c*2+t,none⟩=some u:=fun t u ht hu=>by
  obtain ⟨ad,e,hh⟩:=h (c*2+t) u ((Rw.flat_get EP r c t q hq ht).trans hu);have:=Option.some.inj e;subst this;rw [hadd] at hh;exact hh
 exact ⟨hc 0 _ δ rfl,hc 1 _ δ rfl⟩
theorem bg.Dk {w w':World} {base g:Nat} {T:TypeId} {v x y:Value} {vs:List Value} {rows:List (List (Int × Int))} (h:bg w base v vs rows) (K:aG w g T #[x]) (hT:T≠74) (M8:T≠130) (hb:Below w (w.setCell ⟨g,0,none⟩ y) w'):bg w' base v vs rows:=
 (h.ep K hT M8 y).below (bC hb)
theorem bg.held {w1 w:World} {base g:Nat} {T:TypeId} {v x:Value} {vs:List Value} {rows:List (List (Int × Int))} (h:bg w1 base v vs rows) (hH:Rg.Held w1 g w) (K:aG w1 g T #[x]) (hT:T≠74) (M8:T≠130):bg w base v vs rows:=by
 have key:∀ {t:TypeId} {k n:Nat} {u:Value} {zs:List Value},w1.ownsRow base t k u n zs->T≠t->w.ownsRow base t k u n zs:=fun {t k n u zs} h ht=>by
  refine ⟨h.1,?_⟩
  rcases h.2 with h2 | ⟨g1,c1,MY,e,h3,h4,h5⟩
  ·exact Or.inl h2
  have hne:g1≠g:=fun e2=>by
   subst e2;unfold aG at K;rw [h4] at K
   injection K with K
   injection K with _ K2
   exact ht K2.symm
  exact Or.inr ⟨g1,c1,MY,e,h3,hH.2 g1 t MY hne h4,h5⟩
 obtain ⟨h1,h2,h3,h4⟩:=h;exact ⟨key h1 M8,h2,fun i u r hu hr=>key (h3 i u r hu hr) hT,h4⟩
def G1 (n:Nat) (s1 s2:Value) (nr:List (Int × Int)) (b2:Nat) (rows:M.JE) (w0 w2:World) (x8 x9 x10 Yw Yx:Value) (w:World):Prop:=match n with
 | 0=>Below w0.heap.size w0 w
 | 1=>∃ h,x8=.slice (some ⟨h,0,none⟩) 2 2/\w.cell? ⟨h,0,none⟩=some s1/\w.cell? ⟨h,1,none⟩=some s2/\Below w0.heap.size w0 w
 | 2=>Rw.Own EP w w0.heap.size x9 nr/\Below w0.heap.size w0 w
 | 3=>∃ w3,w=w3.alloc (.cells #[x9] 130)/\x10=.slice (some ⟨w3.heap.size,0,none⟩) 1 1/\Rw.Own EP w3 w0.heap.size x9 nr/\Below w0.heap.size w0 w3
 | 4=>fQ w b2 Yw (rows ++ [nr])/\Below b2 w2 w
 | _=>fQ w b2 Yx (rows ++ [nr])/\Below b2 w2 w
theorem HY (n:Nat):∀ (m:M.JE) (v:Value) (g base:Nat) (ok:Bool) (w:World),n<=3->M.square (n+1) m->M.Qh m->fQ w base v m->aG w g 103 #[ok]->
  Calls prog 73 #[.pointer (some ⟨g,0,none⟩),v] w fun e w'=>e=.returned (.agg #[M.Iy (iX ok (n+1) m),M.I3 (iX ok (n+1) m)])/\Below w.heap.size (w.setCell ⟨g,0,none⟩ (.bool (ok && (dN (n+1) m).isSome))) w':=by
 induction n with
 | zero=>
  intro m v g base ok w hn Je hok hm K
  obtain ⟨q,rfl⟩:∃ q,m=[[q]]:=by
   obtain ⟨h1,h2⟩:=Je;obtain ⟨r,rfl⟩:=List.length_eq_one_iff.1 h1;obtain ⟨q,rfl⟩:=List.length_eq_one_iff.1 (h2 r (List.mem_cons_self ..));exact ⟨q,rfl⟩
  obtain ⟨q1,q2⟩:=q;obtain ⟨gm,cap,g2,cap2,rfl,k0,k1,k2⟩:=hm.at (i:=0) (j:=0) rfl rfl;simp only [Nat.zero_mul,Nat.zero_add,List.length_cons,List.length_nil] at k0 k1 k2 ⊢;have e1:M.Iy (iX ok 1 [[(q1,q2)]])=q1:=rfl;have e2:M.I3 (iX ok 1 [[(q1,q2)]])=q2:=rfl
  have e3:(ok && (dN 1 [[(q1,q2)]]).isSome)=ok:=by cases ok <;> rfl
  rw [e1,e2,e3];clear e1 e2 e3 hok Je hm;have B:=(IX w.heap.size w).alloc (IY _) (.cells #[(0:Int),(0:Int)] 74);have R:=aG.new w #[(0:Int),(0:Int)] 74;replace k0:=aE B k0;replace k1:=aE B k1;replace k2:=aE B k2;replace B:=fm K B;generalize hw3:w.alloc (.cells #[(0:Int),(0:Int)] 74)=wc at *;have ⟨r0,r1,z0,z1,rl⟩:=R.box;go_enter func73,ntmps73
  go_wp2;exact D_ results73 ⟨rfl,IW (IW B σ _) σ _⟩
 | succ n ih=>
 intro m v g base ok w hn Je hok hm K0;obtain ⟨vs,hm⟩:=hm;have hml:m.length=n+2:=Je.1
 obtain ⟨r0,hr0⟩:∃ r,m[0]?=some r:=⟨_,List.getElem?_eq_getElem ω⟩
 have KR:r0.length=n+2:=Je.2 r0 (List.mem_of_getElem? hr0)
 have hhd:m.headD []=r0:=by
  cases m with
  | nil=>cases hr0
  | cons x m=>exact Option.some.inj hr0
 obtain ⟨gm,MX,rfl,hcm,hcm2,hgm⟩:=hm.form (fun h=>by rw [h] at hml;simp only [List.length_nil] at hml;omega);obtain ⟨g0,cap0,hv0,hc0,hg0⟩:=hm.rowIs hr0 (fun h=>by rw [h] at KR;simp only [List.length_nil] at KR;omega);rw [KR] at hv0 hc0;rw [hml] at hm hcm ⊢;have Na:=hm.kd hv0;have hsd:iY ok n m (n+2)=iX ok (n+1+1) m/\(ok && (eJ n m (n+2)).isSome)=(ok && (dN (n+1+1) m).isSome):=Ce (ok:=ok) Je;have hsd:=IU hsd;have Je:=IU Je;have hr0:=IU hr0;have KR:=IU KR;have hml:=IU hml;have hhd:=IU hhd;have hok:=IU hok;have hm:=IU hm;have hv0:=IU hv0;have ih:=IU ih;have hsz:=IV w (.cells #[(0:Int),(0:Int)] 74);obtain ⟨wc,hw3,R,B⟩:=cf w #[(0:Int),(0:Int)] 74;rw [hw3] at hsz;have S:=aG.new wc #[(0:Int),(0:Int)] 74;replace B:=B.alloc ω (.cells #[(0:Int),(0:Int)] 74);replace R:=R.alloc (.cells #[(0:Int),(0:Int)] 74);have hgl:=K0.lt
 have nR:w.heap.size≠g:=ω
 have nS:wc.heap.size≠g:=ω
 have nR2:g≠w.heap.size:=ω
 have Ts:g≠wc.heap.size:=ω
 have hwl:w.heap.size<wc.heap.size:=ω
 clear hsz;have K:=K0.keep B;have hwz:wc.heap.size+1<=(wc.alloc (.cells #[(0:Int),(0:Int)] 74)).heap.size:=S.lt;replace Na:=aE B Na;replace B:=fm K0 B
 have hn1:(n:Int)<=2:=ω
 have hne1:((n:Int)+2 == 1)=false:=by rw [beq_eq_false_iff_ne];omega
 go_enter func73,ntmps73
 go_wp2
 go_loopw [25] (fun vc wq=>∃ c:Nat,c<=n+2/\vc=.int .i64 (c:Int)/\aG wq g 103 #[.bool (ok && (eJ n m c).isSome)]/\aG wq wc.heap.size 74 #[M.Iy (iY ok n m c),M.I3 (iY ok n m c)]/\aG wq w.heap.size 74 #[(0:Int),(0:Int)]/\wc.heap.size+1<=wq.heap.size/\Below w.heap.size (w.setCell ⟨g,0,none⟩ (.bool (ok && (eJ n m c).isSome))) wq) (fun vc _=>n+2 - (intOf vc).toNat)
 case atStart=>
  have e0:(ok && (eJ n m 0).isSome)=ok:=by cases ok <;> rfl
  exact ⟨0,Nat.zero_le _,rfl,by rw [e0];exact K,S,R,hwz,by rw [e0];exact B⟩
 case round=>
 clear K S R B hwz Na;obtain ⟨c,hc,rfl,K,S,R,hwz,B⟩:=hrel;generalize hwo:wr=wo at *;clear hwo
 by_cases hlt:c<n+2
 ·obtain ⟨q,hq⟩:∃ q,r0[c]?=some q:=⟨_,List.getElem?_eq_getElem (by have:=KR.out;omega)⟩
  have SS:M.Jo (some q):=fun p hp=>by
   obtain rfl:=Option.some.inj hp;exact hok.out r0 (List.mem_of_getElem? hr0.out) _ (List.mem_of_getElem? hq)
  have MQ:=IU (hm.out.Dk K0 δ δ B);obtain ⟨d0,d1⟩:=(MQ.out.rowFrom hv0.out hr0.out).at2 hq
  obtain ⟨fc,hfc⟩:∃ x,x=(ok && (eJ n m c).isSome):=⟨_,rfl⟩
  obtain ⟨us,Tp⟩:∃ x,x=iY ok n m c:=⟨_,rfl⟩
  obtain ⟨u1,hu1⟩:∃ x,x=iX fc (n+1) (bq m c):=⟨_,rfl⟩
  obtain ⟨f1,hf1⟩:∃ x,x=(fc && (dN (n+1) (bq m c)).isSome):=⟨_,rfl⟩
  obtain ⟨u2,hu2⟩:∃ x,x=M.gd f1 (gF (some q) u1):=⟨_,rfl⟩
  obtain ⟨hk1,hk2⟩:=xv hfc hf1 hu1 (by rw [hhd.out];exact hq) hu2
  have hfs:fc=true->us.isSome=true:=fun h=>by rw [Tp];exact yw (by rw [←hfc];exact h)
  have QC:f1=true->fc=true:=fun h=>by rw [hf1,Bool.and_eq_true] at h;exact h.1
  have SI:f1=true->u1.isSome=true:=fun h=>by rw [hu1];exact xr (by rw [←hf1];exact h)
  have QV:u2.isSome=true->f1=true:=fun h=>by rw [hu2] at h;exact (lH h).1
  have OG:=kj Je.out hlt;have hok1:=p9 (c:=c) hok.out
  have PD:=fun vo b W h K=>ih.out (bq m c) vo g b fc W ω OG hok1 h K
  rw [←hu1,←hf1] at PD
  have PT:=fun W K=>BR g f1 (some q) u1 W K SS (by rw [hu1];exact DI hok1) (fun _=>rfl) SI
  rw [←hu2] at PT
  have hsu:M.Jo us:=by rw [Tp];exact EZ
  have QW:M.Jo u2:=by rw [hu2];exact lP wu
  have PP:=fun W K=>wY g u2.isSome us u2 W K hsu QW (fun h=>hfs (QC (QV h))) (fun h=>h)
  have PM:=fun W K=>oM g u2.isSome us u2 W K hsu QW (fun h=>hfs (QC (QV h))) (fun h=>h)
  rw [←Tp] at hk1 hk2 S;rw [←hfc] at K B;rw [hk1] at hk2;have hmin:=IU (fun (i:Nat) (r:List (Int × Int)) (h:m[i+1]?=some r)=>yQ (c:=c) h);have LK:=IU (uv (c:=c) (n:=n+1) hml.out)
  obtain ⟨mm,hmm⟩:∃ x,x=bq m c:=⟨_,rfl⟩
  rw [←hmm] at hmin LK PD;clear hmm OG hok1 hfs QC SI QV hsu QW hu2 hf1 hu1 hfc Tp SS;obtain ⟨q1,q2⟩:=q;have e1:M.Iy (some (q1,q2))=q1:=rfl;have e2:M.I3 (some (q1,q2))=q2:=rfl;rw [e1,e2] at PT;simp only [] at d0 d1;clear e1 e2 hq;generalize M.I3 u1=h1,M.Iy u1=l1 at *
  have hq2:fH us u2 c=if c % 2=0 then gV us u2 else dK us u2:=rfl
  rw [hq2] at hk1;clear hq2
  obtain ⟨un,hun⟩:∃ x,x=iY ok n m (c+1):=⟨_,rfl⟩
  obtain ⟨fn,hfn⟩:∃ x,x=(ok && (eJ n m (c+1)).isSome):=⟨_,rfl⟩
  rw [←hun] at hk1 hk2;rw [←hfn] at hk2;replace hun:=IU hun;replace hfn:=IU hfn
  obtain ⟨f2,hf2⟩:∃ x,x=u2.isSome:=⟨_,rfl⟩
  rw [←hf2] at PT PP PM hk1;clear hf2;generalize M.I3 u2=h2,M.Iy u2=l2 at *
  obtain ⟨l5,hl5⟩:∃ x,x=M.Iy us:=⟨_,rfl⟩
  obtain ⟨h5,hh5⟩:∃ x,x=M.I3 us:=⟨_,rfl⟩
  rw [←hl5,←hh5] at PP PM S;clear hl5 hh5
  obtain ⟨l6,NZ⟩:∃ x,x=M.Iy un:=⟨_,rfl⟩
  obtain ⟨h6,QF⟩:∃ x,x=M.I3 un:=⟨_,rfl⟩
  have PQ:(c % 2=0->∀ W,aG W g 103 #[f2]->Calls prog 114 #[.pointer (some ⟨g,0,none⟩),.agg #[l5,h5],.agg #[l2,h2]] W fun e w'=>e=.returned (.agg #[l6,h6])/\Below W.heap.size (W.setCell ⟨g,0,none⟩ (.bool fn)) w'):=fun h W K=>by
   rw [if_pos h] at hk1;have:=PP W K;rw [hk1,hk2,←NZ,←QF] at this;exact this
  have PR:(c % 2=1->∀ W,aG W g 103 #[f2]->Calls prog 115 #[.pointer (some ⟨g,0,none⟩),.agg #[l5,h5],.agg #[l2,h2]] W fun e w'=>e=.returned (.agg #[l6,h6])/\Below W.heap.size (W.setCell ⟨g,0,none⟩ (.bool fn)) w'):=fun h W K=>by
   rw [if_neg ω] at hk1;have:=PM W K;rw [hk1,hk2,←NZ,←QF] at this;exact this
  rw [hun.out] at NZ QF;have NZ:=IU NZ;have QF:=IU QF;clear PP PM hk1 hk2 hun us u1 u2 un;replace PD:=IU PD;replace PT:=IU PT;replace PQ:=IU PQ;replace PR:=IU PR
  have ngw:g≠wo.heap.size:=ω
  have Bv:=(IX wo.heap.size wo).alloc (IY _) (.cells #[q1,q2] 74);have X:=aG.new wo #[q1,q2] 74;have hX:=X.lt;have MQ:=IU (MQ.out.below Bv);have Ik:=B.size;rw [aS] at Ik;replace B:=B.trans (Bv.mono Ik);replace ⟨K,S,R⟩:=I7 Bv K S R;generalize hw2:wo.alloc (.cells #[q1,q2] 74)=wb at *;clear Bv
  have hcap1:¬ MX=1:=ω
  go_wp2
  go_loopw [8,33] (fun vo vi wi=>∃ (i:Nat) (u:Value),i<=n+1/\vi=.int .i64 (i:Int)/\u=vo/\Hid (fQ wi wb.heap.size u (mm.take i))/\Below wb.heap.size wb wi) (fun _ vi _=>n+1 - (intOf vi).toNat)
  case atStart=>exact ⟨0,_,Nat.zero_le _,rfl,rfl,IU (fQ.nil _ _),IX _ _⟩
  case round=>
  clear d0 d1;obtain ⟨i,vo,hi,rfl,rfl,hrow,Bi⟩:=hrel;have J0:=IU (MQ.out.below Bi)
  by_cases hlt2:i<n+1
  ·obtain ⟨r,hr⟩:∃ r,m[i+1]?=some r:=⟨_,List.getElem?_eq_getElem (by have:=hml.out;omega)⟩
   have hrl:r.length=n+2:=Je.out.2 r (List.mem_of_getElem? hr);obtain ⟨gi,Io,QX,hci,hgi⟩:=J0.out.rowIs hr (fun h=>by rw [h] at hrl;simp only [List.length_nil] at hrl;omega);have Sf:=J0.out.kd QX;rw [Nat.add_comm i 1] at Sf;have FR:=J0.out.rowFrom QX hr;rw [hrl] at Sf hci;have hcell:=hmin.out i r hr
   obtain ⟨nr,hnr⟩:∃ x,x=r.take c ++ r.drop (c+1):=⟨_,rfl⟩
   rw [←hnr] at hcell;have F1:=IU (FR.cut c);have F2:=IU (FR.xM (c+1) Io ω)
   have hl1:(r.take c).length=c:=by rw [List.length_take];omega
   have hl2:(r.drop (c+1)).length=n+2 - (c+1):=by rw [List.length_drop,hrl]
   have PC:=fun W h k0 k1 (b:Below wr.heap.size wr W)=>AJ h c Io (n+2 - (c+1)) (Io - (c+1)) _ _ (r.take c) (r.drop (c+1)) W k0 k1 hl1 hl2 (F1.out.below b) (F2.out.below b) ω ω
   rw [←hnr] at PC;have hnx:=M.lZ hcell;have hnx:=IU hnx;obtain ⟨vs2,KS⟩:=hrow.out;have KS:=IU KS
   have hlen:(mm.take i).length<=1000000000:=by rw [List.length_take];omega
   have hEP:EP.k=2:=rfl;rw [hEP] at PC;clear hEP hcell hnr F1 F2 hl1 hl2 FR QX hr hrl;replace PC:=IU PC
   have hcc:((c:Nat):Int)<=4:=ω
   have P_:((c:Nat):Int)<=((n+2:Nat):Int):=ω
   have XD:((c:Nat):Int)<=((Io:Nat):Int):=ω
   have XE:((c:Nat):Int)+1<=((n+2:Nat):Int):=ω
   go_upto_region 11 with fail
   refine FQ (fun k v w=>G1 k (.slice (some ⟨gi,0,none⟩) c Io) (.slice (if Io=c+1 then some ⟨gi,0,none⟩ else some ⟨gi,(c+1)*2,none⟩) (n+2 - (c+1)) (Io - (c+1))) nr wb.heap.size (mm.take i) wr wb (v 8) (v 9) (v 10) (v 11) (v 12) w) [8,9,10,11,12] [vo,.slice (some ⟨gi,0,none⟩) (n+2) Io,.int .i64 ((c:Nat):Int),.slice (some ⟨gi,0,none⟩) c Io,.slice (some ⟨gi,0,none⟩) (n+2) Io,.int .i64 ((c:Nat):Int),.int .i64 ((c:Nat)+1),.slice (if Io=c+1 then some ⟨gi,0,none⟩ else some ⟨gi,(c+1)*2,none⟩) (n+2 - (c+1)) (Io - (c+1)),undef,undef,undef,undef,undef] κ κ κ δ (fun k v v2 w h hj=>by rw [←h 8 δ,←h 9 δ,←h 10 δ,←h 11 δ,←h 12 δ];exact hj) (fun _=>(IX _ wr).drew) ⟨?_,?_,?_,?_,?_,?_,?_,?_,?_,?_,?_,?_,?_,trivial⟩ ?_
   ·unfold bV
    rw [if_neg δ];intro zZ w_ n_ d_ Jh hJ hr;refine ⟨rfl,?_⟩;have e8:zZ.tmps[8]?=some (vo):=hr 8 δ;go_simp
   ·unfold bV
    rw [if_neg δ];intro zZ w_ n_ d_ Jh hJ hr;refine ⟨rfl,?_⟩;have e10:zZ.tmps[10]?=some (.slice (some ⟨gi,0,none⟩) (n+2) Io):=hr 10 δ;go_simp
   ·unfold bV
    rw [if_neg δ];intro zZ w_ n_ d_ Jh hJ hr;refine ⟨rfl,?_⟩;have e6:zZ.tmps[6]?=some (.int .i64 ((c:Nat):Int)):=hr 6 δ;go_simp
   ·unfold bV
    rw [if_neg δ];intro zZ w_ n_ d_ Jh hJ hr;refine ⟨rfl,?_⟩;have e38:zZ.tmps[38]?=some (.slice (some ⟨gi,0,none⟩) (n+2) Io):=hr 38 δ;have e39:zZ.tmps[39]?=some (.int .i64 ((c:Nat):Int)):=hr 39 δ
    (first | (go_simp;done) | (go_simp;exact Rg.wr ω ω) | (go_simp;omega) | (go_simp;rfl))
   ·unfold bV
    rw [if_neg δ];intro zZ w_ n_ d_ Jh hJ hr;refine ⟨rfl,?_⟩;have e10:zZ.tmps[10]?=some (.slice (some ⟨gi,0,none⟩) (n+2) Io):=hr 10 δ;go_simp
   ·unfold bV
    rw [if_neg δ];intro zZ w_ n_ d_ Jh hJ hr;refine ⟨rfl,?_⟩;have e6:zZ.tmps[6]?=some (.int .i64 ((c:Nat):Int)):=hr 6 δ;go_simp
   ·unfold bV
    rw [if_neg δ];intro zZ w_ n_ d_ Jh hJ hr;refine ⟨rfl,?_⟩;have e42:zZ.tmps[42]?=some (.int .i64 ((c:Nat):Int)):=hr 42 δ;have ec:=Rg.ec zZ
    (first | (go_simp;done) | (go_simp;exact Rg.wr ω ω) | (go_simp;omega) | (go_simp;rfl))
   ·unfold bV
    rw [if_neg δ];intro zZ w_ n_ d_ Jh hJ hr;refine ⟨rfl,?_⟩;have e41:zZ.tmps[41]?=some (.slice (some ⟨gi,0,none⟩) (n+2) Io):=hr 41 δ;have e43:zZ.tmps[43]?=some (.int .i64 ((c:Nat)+1)):=hr 43 δ
    have hcN:((c:Nat):Int)+1<=((n+2:Nat):Int):=ω
    (first | (go_simp;done) | (go_simp;exact Rg.wr ω ω) | (go_simp;omega) | (go_simp;rfl))
   ·unfold bV
    rw [if_pos δ];intro zZ w_ d_ hJ hr;have e40:zZ.tmps[40]?=some (.slice (some ⟨gi,0,none⟩) c Io):=hr 40 δ;have e44:zZ.tmps[44]?=some (.slice (if Io=c+1 then some ⟨gi,0,none⟩ else some ⟨gi,(c+1)*2,none⟩) (n+2 - (c+1)) (Io - (c+1))):=hr 44 δ;refine ⟨rfl,?_⟩;have hJ:Below wr.heap.size wr w_:=hJ;refine ut (x:=.slice (some ⟨w_.heap.size,0,none⟩) 2 2) (ob:=.cells #[.slice (some ⟨gi,0,none⟩) c Io,.slice (if Io=c+1 then some ⟨gi,0,none⟩ else some ⟨gi,(c+1)*2,none⟩) (n+2 - (c+1)) (Io - (c+1))] 130) (by first | (go_simp;done) | (go_simp;rfl)) ?_;exact ⟨_,rfl,sW _ _ _ 0 _ rfl,sW _ _ _ 1 _ rfl,hJ.alloc hJ.size _⟩
   ·unfold bV
    rw [if_pos δ];intro zZ w_ d_ hJ hr;have e45:zZ.tmps[45]?=some (d_ 8):=hr 45 δ
    have ef:∀ f,zZ.eval (.func f)=.func (.func f) #[] #[]:=fun _=>rfl
    refine ⟨rfl,?_⟩;obtain ⟨h_,e8_,k0_,k1_,In⟩:=hJ;rw [e8_] at e45;refine ll τ ?_;refine (PC.out w_ h_ k0_ k1_ In).mono ?_;rintro e w5 ⟨v5,rfl,JU,hb5⟩;exact ⟨_,rfl,(JU.down In.size:Rw.Own EP w5 wr.heap.size v5 nr),j_ In hb5⟩
   ·unfold bV
    rw [if_pos δ];intro zZ w_ d_ hJ hr;have e46:zZ.tmps[46]?=some (d_ 9):=hr 46 δ;refine ⟨rfl,?_⟩;obtain ⟨Jv,In⟩:=hJ;have Jv:Rw.Own EP w_ wr.heap.size (d_ 9) nr:=Jv;refine ut (x:=.slice (some ⟨w_.heap.size,0,none⟩) 1 1) (ob:=.cells #[d_ 9] 130) (by rcases Jv.forms with ⟨q_,-⟩ | ⟨g_,c_,q_,-⟩ <;> rw [q_] at e46 ⊢ <;> (first | (go_simp;done) | (go_simp;rfl))) ?_;exact ⟨w_,rfl,rfl,Jv,In⟩
   ·unfold bV
    rw [if_pos δ];intro zZ w_ d_ hJ hr;have e37:zZ.tmps[37]?=some (vo):=hr 37 δ;have e47:zZ.tmps[47]?=some (d_ 10):=hr 47 δ;refine ⟨rfl,?_⟩;obtain ⟨w3,YF,Lx,Jv,In⟩:=hJ;subst YF;have Lx:d_ 10=.slice (some ⟨w3.heap.size,0,none⟩) 1 1:=Lx;have Jv:Rw.Own EP w3 wr.heap.size (d_ 9) nr:=Jv;rw [Lx] at e47;have NI:Below wb.heap.size wb w3:=j_ Bi In;obtain ⟨v6,w6,OK,OL,OM⟩:=pP (W:=wb) (w:=w3) 98 wb.heap.size (d_ 9) nr vs2 _ _ (KS.out.below In) (Jv.down Bi.size) (KS.out.fresh Jv (IY _)) NI NI.size hlen;refine gH (x:=v6) (w2:=w6) (kD rfl (Rg.ev e37) (Rg.ev e47) OK) ?_;exact ⟨⟨_,OL⟩,OM⟩
   ·unfold bV
    rw [if_pos δ];intro zZ w_ d_ hJ hr;have e48:zZ.tmps[48]?=some (d_ 11):=hr 48 δ;refine ⟨rfl,?_⟩;refine gH (x:=d_ 11) (w2:=w_) (by first | (go_simp;done) | (go_simp;rfl)) ?_;exact hJ
   intro vals wz hJ hv;simp only [bD,Rg.fill,Act.put,Nat.reduceAdd];clear hv;obtain ⟨hM2,hB2⟩:=hJ;have hM2:fQ wz wb.heap.size (vals 12) (mm.take i ++ [nr]):=hM2;rw [←hnx.out] at hM2;have hM2:=IU hM2;clear hnx KS PC;go_wp2
   go_roundw
   case rel=>exact ⟨i+1,_,ω,ν,rfl,hM2,hB2⟩
   case measure=>simp [intOf] <;> omega
  obtain rfl:i=n+1:=ω
  have Ks:fQ wr wb.heap.size vo mm:=by
   have h:=hrow.out;rw [List.take_of_length_le (by rw [LK.out];omega)] at h;exact h
  have Ks:=IU Ks
  have Wx:w.heap.size<=wb.heap.size:=ω
  replace B:=B.trans (Bi.mono Wx);replace ⟨K,S,R,X⟩:=Ip Bi K S R X;clear hrow J0 MQ Bi
  have nXg:wo.heap.size≠g:=ω
  go_upto_region 13 with fail
  refine FU (g) 103 (fun n=>match n with | 0=>.bool fc | 1=>.bool f1 | _=>.bool f2) [4,5] 6 7 74 #[(0:Int),(0:Int)] #[l2,h2] [.is (.pointer (some ⟨g,0,none⟩)),.is (.agg #[q1,q2]),.is (.pointer (some ⟨g,0,none⟩)),.is (vo),.is (.agg #[l1,h1]),.is (.agg #[l2,h2]),.is (undef),.is (undef)] κ κ κ (fun j h1 h2=>match j,h1,h2 with | 0,h1,h2=>rfl | 1,h1,h2=>rfl | 2,h1,h2=>rfl | 3,h1,h2=>rfl | 4,h1,h2=>rfl | 5,h1,h2=>rfl | 6,h1,h2=>absurd rfl h1 | 7,h1,h2=>absurd rfl h2 | n+8,_,_=>rfl) δ δ δ δ K ⟨?_,?_,?_,?_,?_,?_,?_,?_,trivial⟩ ?_
  ·unfold bj
   rw [if_neg δ,if_neg δ,if_neg δ];intro zZ w_ hH hr;have e0:zZ.tmps[0]?=some (.pointer (some ⟨g,0,none⟩)):=hr 0 δ;exact aU rfl γ
  ·unfold bj
   rw [if_neg δ,if_neg δ,if_neg δ];intro zZ w_ hH hr;have e7:zZ.tmps[7]?=some (.pointer (some ⟨wo.heap.size,0,none⟩)):=hr 7 δ;have k0:=(hH.2 _ _ _ nXg X).box.c0;have k1:=(hH.2 _ _ _ nXg X).box.c1;exact aU rfl γ
  ·unfold bj
   rw [if_neg δ,if_neg δ,if_neg δ];intro zZ w_ hH hr;have e0:zZ.tmps[0]?=some (.pointer (some ⟨g,0,none⟩)):=hr 0 δ;exact aU rfl γ
  ·unfold bj
   rw [if_neg δ,if_neg δ,if_neg δ];intro zZ w_ hH hr;have e8:zZ.tmps[8]?=some (vo):=hr 8 δ;exact aU rfl γ
  ·unfold bj
   rw [if_neg δ,if_neg δ,if_pos δ];intro zZ w_ K_ hH hr;replace K_:aG w_ (g) 103 #[fc]:=K_;have e52:=Rg.t_ (hr 52 δ);have e53:=Rg.t_ (hr 53 δ);have ef:=Rg.ef zZ;exact iG rfl γ (PD.out _ _ _ (Ks.out.elim fun _ h_=>⟨_,h_.held hH K δ δ⟩) K_)
  ·unfold bj
   rw [if_neg δ,if_neg δ,if_pos δ];intro zZ w_ K_ hH hr;replace K_:aG w_ (g) 103 #[f1]:=K_;have e50:=Rg.t_ (hr 50 δ);have e51:=Rg.t_ (hr 51 δ);have e54:=Rg.t_ (hr 54 δ);have ef:=Rg.ef zZ;exact iG rfl γ (PT.out _ K_)
  ·unfold bj
   rw [if_pos rfl];intro zZ w_;exact nH rfl (by first | (go_simp;done) | (go_simp;rfl))
  ·unfold bj
   rw [if_neg δ,if_pos rfl];intro zZ w_ h_ hh hn hr;have e11:zZ.tmps[11]?=some (.pointer (some ⟨h_,0,none⟩)):=hr 11 δ;have e55:=Rg.t_ (hr 55 δ);have ⟨y0,y1,x0,x1,_⟩:=hn.box;refine ⟨rfl,?_⟩;unfold Oper.wp;go_simp
   exact ⟨aG.set2 hn _ _,IW (IW (IX _ _) hh _) hh _⟩
  intro vals wz h_ hh hn Mt hB hv;replace hB:Below wr.heap.size (wr.setCell ⟨g,0,none⟩ (.bool f2)) wz:=hB;simp only [bD,Rg.fill,Act.put,Nat.reduceAdd];clear hv;simp only [Mt];clear Mt;have hB2:=bC hB;have B2:=iD B K0 K hB;replace S:=(S.other (i:=0) nS (.bool f2)).keep hB2;replace R:=(R.other (i:=0) nR (.bool f2)).keep hB2;replace K:=(K.one (.bool f2)).keep hB2;have ⟨s0,s1,y0,y1,sl⟩:=S.box;have ⟨t0,t1,_,_,_⟩:=hn.box;clear hB hB2 B PD PT Ks X;have ht:Int.tmod ((c:Nat):Int) 2=((c % 2:Nat):Int):=(Int.ofNat_tmod c 2).symm
  rcases Nat.mod_two_eq_zero_or_one c with hp | hp
  ·rw [hp] at ht
   have PX:=IU (PQ.out hp);clear PQ PR
   go_wp2_with (go_at_call 114;(with_reducible refine (PX.out _ K).mono ?_);rintro e w6 ⟨rfl,hb6⟩;have Ig:=bC hb6;replace B2:=iD B2 K0 K hb6;replace S:=(S.other (i:=0) nS (.bool fn)).keep Ig;replace R:=(R.other (i:=0) nR (.bool fn)).keep Ig;replace K:=(K.one (.bool fn)).keep Ig;(have ⟨s0,s1,y0,y1,sl⟩:=S.box))
   go_roundw
   case rel=>exact ⟨c+1,ω,ν,by rw [←hfn.out];exact (K.other Ts _).other Ts _,by rw [←NZ.out,←QF.out];exact aG.set2 S _ _,(R.other ω _).other ω _,by rw [aS,aS];omega,by rw [←hfn.out];exact IW (IW B2 (by show w.heap.size<=wc.heap.size;omega) _) (by show w.heap.size<=wc.heap.size;omega) _⟩
   case measure=>simp [intOf] <;> omega
  rw [hp] at ht;have PX:=IU (PR.out hp);clear PQ PR
  go_wp2_with (go_at_call 115;(with_reducible refine (PX.out _ K).mono ?_);rintro e w6 ⟨rfl,hb6⟩;have Ig:=bC hb6;replace B2:=iD B2 K0 K hb6;replace S:=(S.other (i:=0) nS (.bool fn)).keep Ig;replace R:=(R.other (i:=0) nR (.bool fn)).keep Ig;replace K:=(K.one (.bool fn)).keep Ig;(have ⟨s0,s1,y0,y1,sl⟩:=S.box))
  go_roundw
  case rel=>exact ⟨c+1,ω,ν,by rw [←hfn.out];exact (K.other Ts _).other Ts _,by rw [←NZ.out,←QF.out];exact aG.set2 S _ _,(R.other ω _).other ω _,by rw [aS,aS];omega,by rw [←hfn.out];exact IW (IW B2 (by show w.heap.size<=wc.heap.size;omega) _) (by show w.heap.size<=wc.heap.size;omega) _⟩
  case measure=>simp [intOf] <;> omega
 obtain rfl:c=n+2:=ω
 obtain ⟨e1,e2⟩:=hsd.out;rw [e1] at S;rw [e2] at B K;clear e1 e2 hsd
 obtain ⟨d1,hd1⟩:∃ x,x=M.Iy (iX ok (n+1+1) m):=⟨_,rfl⟩
 obtain ⟨d2,hd2⟩:∃ x,x=M.I3 (iX ok (n+1+1) m):=⟨_,rfl⟩
 rw [←hd1,←hd2] at S;have hd1:=IU hd1;have hd2:=IU hd2;have ⟨s0,s1,y0,y1,sl⟩:=S.box;have ⟨t0,t1,z0,z1,tl⟩:=R.box;go_wp2;exact D_ (v:=.agg #[d1,d2]) results73 ⟨by rw [hd1.out,hd2.out],IW (IW B (IY _) _) (IY _) _⟩
theorem b9.rowIs {w:World} {base:Nat} {v:Value} {vs:List Value} {rows:List (List (Int × Int × Int × Int))} (h:b9 w base v vs rows) {i:Nat} {r:List (Int × Int × Int × Int)} (hr:rows[i]?=some r) (hne:r≠[]) :
  ∃ (g2 cap2:Nat),vs[i]?=some (.slice (some ⟨g2,0,none⟩) r.length cap2)/\r.length<=cap2/\g2<w.heap.size:=by
 have hi:=(List.getElem?_eq_some_iff.1 hr).1;have hl:=h.2.1;have hu:vs[i]?=some (vs[i]' ω):=List.getElem?_eq_getElem ω
 rcases (h.2.2.1 i _ r hu hr).forms with ⟨-,h4⟩ | ⟨g2,cap2,e,hg,hg2,hc2,-⟩
 ·exact absurd h4 hne
 exact ⟨g2,cap2,by rw [hu,e],hc2,hg2⟩
theorem b9.form {w:World} {base:Nat} {v:Value} {vs:List Value} {rows:List (List (Int × Int × Int × Int))} (h:b9 w base v vs rows) (hne:rows≠[]):∃ (g cap:Nat),v=.slice (some ⟨g,0,none⟩) rows.length cap/\rows.length<=cap/\cap<=9223372036854775807/\g<w.heap.size:=by
 rcases h.1.2 with ⟨-,h2⟩ | ⟨g,cap,cur,e,hg,hh,hc,hm,-⟩
 ·exact absurd (List.eq_nil_of_length_eq_zero h2) hne
 exact ⟨g,cap,e,hc,by unfold maxLen at hm;omega,(Array.getElem?_eq_some_iff.1 hh).1⟩
theorem b9.kd {w:World} {base g n cap:Nat} {vs:List Value} {rows:List (List (Int × Int × Int × Int))} (h:b9 w base (.slice (some ⟨g,0,none⟩) n cap) vs rows) {i:Nat} {u:Value} (hu:vs[i]?=some u):w.cell? ⟨g,i,none⟩=some u:=by
 have hi:=(List.getElem?_eq_some_iff.1 hu).1;have hl:=h.2.1;have h1:=h.1
 rcases h1.2 with ⟨e,-⟩ | ⟨g1,c1,MY,e,-⟩
 ·cases e
 injection e with _ e2 _
 subst e2;exact (World.ownsRow.cellAt h1 i ω).trans hu
theorem b9.rowFrom {w:World} {base:Nat} {v:Value} {vs:List Value} {rows:List (List (Int × Int × Int × Int))} (h:b9 w base v vs rows) {i g2 cap2 n2:Nat} {r:List (Int × Int × Int × Int)} (hu:vs[i]?=some (.slice (some ⟨g2,0,none⟩) n2 cap2)) (hr:rows[i]?=some r):Rw.From EN w (some ⟨g2,0,none⟩) r:=by
 have ho:=h.2.2.1 i _ r hu hr
 rcases ho.forms with ⟨e,-⟩ | ⟨g3,Ry,e,hg,hg3,hc3,-⟩
 ·cases e
 injection e with e1 e2 e3
 have:=ho.FN e2 (ho.lt g2 rfl).2 (IX _ w) r.length;rw [List.take_length] at this;exact this
theorem Rw.From.at4 {w:World} {g c:Nat} {r:List (Int × Int × Int × Int)} {q:Int × Int × Int × Int} (h:Rw.From EN w (some ⟨g,0,none⟩) r) (hq:r[c]?=some q):w.cell? ⟨g,c*4,none⟩=some (.int .i64 q.1)/\w.cell? ⟨g,c*4+1,none⟩=some (.int .i64 q.2.1)/\w.cell? ⟨g,c*4+2,none⟩=some (.int .i64 q.2.2.1)/\w.cell? ⟨g,c*4+3,none⟩=some (.int .i64 q.2.2.2):=by
 have hadd:∀ b i:Nat,(⟨b,0,none⟩:Addr).add i=⟨b,i,none⟩:=fun b i=>by unfold Addr.add;split <;> simp_all
 have hc:∀ (t:Nat) (u:Value),t<4->(EN.cells q)[t]?=some u->w.cell? ⟨g,c*4+t,none⟩=some u:=fun t u ht hu=>by
  obtain ⟨ad,e,hh⟩:=h (c*4+t) u ((Rw.flat_get EN r c t q hq ht).trans hu);have:=Option.some.inj e;subst this;rw [hadd] at hh;exact hh
 exact ⟨hc 0 _ δ rfl,hc 1 _ δ rfl,hc 2 _ δ rfl,hc 3 _ δ rfl⟩
theorem Rw.kh {α:Type} {E:Rw.Enc α} {w W:World} {base:Nat} {v:Value} {xs:List α} {P:Program} {ts:TypeId} (F:Rw.Fits P E ts) (ty:TypeId) (ys:List α) (m:Nat) (hm:ys.length=m) (A:Option Addr) (c:Nat)
  (hr:Rw.From E w A ys) (hown:Rw.Own E w base v xs) (hW:Below base W w) (hB:base<=w.heap.size) (hl:xs.length+m<=100000000000) :
  ∃ v' w',(Builtin.append_ #[ts,ts] ty #[v,.slice A m c]).run P w=.ok v' w'/\Rw.Own E w' base v' (xs ++ ys)/\Below base W w':=by
 subst hm;exact tz F ty ys A c hr hown hW hB hl
abbrev Oy:=List (List (Int × Int × Int × Int))
def M.i9 (m:Oy) (c:Nat):Oy:=m.tail.map fun r=>r.take c ++ r.drop (c+1)
theorem M.yR {m:Oy} {c i:Nat} {r:List (Int × Int × Int × Int)} (h:m[i+1]?=some r):(i9 m c)[i]?=some (r.take c ++ r.drop (c+1)):=by
 unfold i9;rw [List.getElem?_map,List.getElem?_tail,h];rfl
theorem M.uw {m:Oy} {c n:Nat} (h:m.length=n+1):(i9 m c).length=n:=by
 unfold i9;rw [List.length_map,List.length_tail,h];rfl
def FY (n:Nat) (r:List (Int × Int × Int × Int)) (c:Nat) (b2:Nat) (rows:Oy) (w0 w2:World) (x1 x5 x10 Yw Yx x13:Value) (w:World):Prop:=match n with
 | 0=>Below w0.heap.size w0 w
 | 1=>Rw.Own EN w w0.heap.size x1 []/\Below w0.heap.size w0 w
 | 2=>Rw.Own EN w w0.heap.size x5 (r.take c)/\Below w0.heap.size w0 w
 | 3=>Rw.Own EN w w0.heap.size x10 (r.take c ++ r.drop (c+1))/\Below w0.heap.size w0 w
 | 4=>∃ w3,w=w3.alloc (.cells #[x10] 136)/\Yw=.slice (some ⟨w3.heap.size,0,none⟩) 1 1/\Rw.Own EN w3 w0.heap.size x10 (r.take c ++ r.drop (c+1))/\Below w0.heap.size w0 w3
 | 5=>eV w b2 Yx (rows ++ [r.take c ++ r.drop (c+1)])/\Below b2 w2 w
 | _=>eV w b2 x13 (rows ++ [r.take c ++ r.drop (c+1)])/\Below b2 w2 w
theorem yL (n c:Nat) (m:Oy) (v:Value) (base:Nat) (w:World) (hn:n<=2) (hml:m.length=n+2) (hmr:∀ r ∈ m,r.length=n+2) (hc:c<n+2) (hm:eV w base v m) :
  Calls prog 120 #[v,.int .i64 (c:Int)] w fun e w'=>∃ v',e=.returned v'/\eV w' w.heap.size v' (i9 m c)/\Below w.heap.size w w':=by
 obtain ⟨vs,hm⟩:=hm;obtain ⟨gm,MX,rfl,hcm,hcm2,hgm⟩:=hm.form (fun h=>by rw [h] at hml;simp only [List.length_nil] at hml;omega);rw [hml] at hm hcm ⊢;have hmin:=IU (fun (i:Nat) (r:List (Int × Int × Int × Int)) (h:m[i+1]?=some r)=>yR (c:=c) h);have LK:=IU (uw (c:=c) (n:=n+1) hml)
 obtain ⟨mm,hmm⟩:∃ x,x=i9 m c:=⟨_,rfl⟩
 rw [←hmm] at hmin LK ⊢;clear hmm;have hml:=IU hml;have hmr:=IU hmr;have hm:=IU hm
 have hcap1:¬ MX=1:=ω
 have hn1:(n:Int)<=2:=ω
 go_enter func120,ntmps120
 go_wp2
 go_loopw [5,11] (fun vo vi wi=>∃ (i:Nat) (u:Value),i<=n+1/\vi=.int .i64 (i:Int)/\u=vo/\Hid (eV wi w.heap.size u (mm.take i))/\Below w.heap.size w wi) (fun _ vi _=>n+1 - (intOf vi).toNat)
 case atStart=>exact ⟨0,_,Nat.zero_le _,rfl,rfl,IU (eV.nil _ _),IX _ _⟩
 case round=>
 obtain ⟨i,vo,hi,rfl,rfl,hrow,Bi⟩:=hrel;have J0:=IU (hm.out.below Bi)
 by_cases hlt2:i<n+1
 ·obtain ⟨r,hr⟩:∃ r,m[i+1]?=some r:=⟨_,List.getElem?_eq_getElem (by have:=hml.out;omega)⟩
  have hrl:r.length=n+2:=hmr.out r (List.mem_of_getElem? hr);obtain ⟨gi,Io,QX,hci,hgi⟩:=J0.out.rowIs hr (fun h=>by rw [h] at hrl;simp only [List.length_nil] at hrl;omega);have Sf:=J0.out.kd QX;rw [Nat.add_comm i 1] at Sf;have FR:=J0.out.rowFrom QX hr;rw [hrl] at Sf hci;have hcell:=hmin.out i r hr;have F1:=IU (FR.cut c);have F2:=FR.xM (c+1) Io ω;have hEN:EN.k=4:=rfl;rw [hEN] at F2;have F2:=IU F2
  have hl1:(r.take c).length=c:=by rw [List.length_take];omega
  have hl2:(r.drop (c+1)).length=n+2 - (c+1):=by rw [List.length_drop,hrl]
  have hl1:=IU hl1;have hl2:=IU hl2;have hnx:=IU (M.lZ hcell);obtain ⟨vs2,KS⟩:=hrow.out;have KS:=IU KS
  have hlen:(mm.take i).length<=1000000000:=by rw [List.length_take];omega
  have hlen:=IU hlen;clear hEN hcell FR QX hr hrl
  have hcc:((c:Nat):Int)<=4:=ω
  have P_:((c:Nat):Int)<=((n+2:Nat):Int):=ω
  have XD:((c:Nat):Int)<=((Io:Nat):Int):=ω
  have XE:((c:Nat):Int)+1<=((n+2:Nat):Int):=ω
  go_upto_region 5 with fail
  refine FQ (fun k v w2_=>FY k r c w.heap.size (mm.take i) wr w (v 1) (v 5) (v 10) (v 11) (v 12) (v 13) w2_) [1,5,10,11,12,13] [vo,undef,.slice (some ⟨gi,0,none⟩) (n+2) Io,.int .i64 ((c:Nat):Int),.slice (some ⟨gi,0,none⟩) c Io,undef,.slice (some ⟨gi,0,none⟩) (n+2) Io,.int .i64 ((c:Nat):Int),.int .i64 ((c:Nat)+1),.slice (if Io=c+1 then some ⟨gi,0,none⟩ else some ⟨gi,(c+1)*4,none⟩) (n+2 - (c+1)) (Io - (c+1)),undef,undef,undef,undef] κ κ κ δ (fun k v v2 w h hj=>by rw [←h 1 δ,←h 5 δ,←h 10 δ,←h 11 δ,←h 12 δ,←h 13 δ];exact hj) (fun _=>(IX _ wr).drew) ⟨?_,?_,?_,?_,?_,?_,?_,?_,?_,?_,?_,?_,?_,?_,trivial⟩ ?_
  ·unfold bV
   rw [if_neg δ];intro zZ w_ n_ d_ Jh hJ hr;refine ⟨rfl,?_⟩;have e5:zZ.tmps[5]?=some (vo):=hr 5 δ;go_simp
  ·unfold bV
   rw [if_pos δ];intro zZ w_ d_ hJ hr;refine ⟨rfl,?_⟩;have hJ:Below wr.heap.size wr w_:=hJ;refine ut (x:=.slice (some ⟨w_.heap.size,0,none⟩) 0 0) (ob:=.cells #[] 78) (by (first | (go_simp;done) | (go_simp;rfl))) ?_;exact ⟨(Rw.Own.Dn EN w_ _ hJ.size:Rw.Own EN _ wr.heap.size _ []),hJ.alloc hJ.size _⟩
  ·unfold bV
   rw [if_neg δ];intro zZ w_ n_ d_ Jh hJ hr;refine ⟨rfl,?_⟩;have e7:zZ.tmps[7]?=some (.slice (some ⟨gi,0,none⟩) (n+2) Io):=hr 7 δ;go_simp
  ·unfold bV
   rw [if_neg δ];intro zZ w_ n_ d_ Jh hJ hr;refine ⟨rfl,?_⟩;have e1:zZ.tmps[1]?=some (.int .i64 ((c:Nat):Int)):=hr 1 δ;go_simp
  ·unfold bV
   rw [if_neg δ];intro zZ w_ n_ d_ Jh hJ hr;refine ⟨rfl,?_⟩;have e17:zZ.tmps[17]?=some (.slice (some ⟨gi,0,none⟩) (n+2) Io):=hr 17 δ;have e18:zZ.tmps[18]?=some (.int .i64 ((c:Nat):Int)):=hr 18 δ
   (first | (go_simp;done) | (go_simp;exact Rg.wr ω ω) | (go_simp;omega) | (go_simp;rfl))
  ·unfold bV
   rw [if_pos δ];intro zZ w_ d_ hJ hr;have e16:zZ.tmps[16]?=some (d_ 1):=hr 16 δ;have e19:zZ.tmps[19]?=some (.slice (some ⟨gi,0,none⟩) c Io):=hr 19 δ;refine ⟨rfl,?_⟩;obtain ⟨Jv,In⟩:=hJ;have Jv:Rw.Own EN w_ wr.heap.size (d_ 1) []:=Jv;obtain ⟨v6,w6,OK,OL,OM⟩:=kh sp (W:=wr) 136 (r.take c) c hl1.out (some ⟨gi,0,none⟩) Io (F1.out.below In) Jv In In.size (by simp only [List.length_nil];omega);refine gH (x:=v6) (w2:=w6) (kD rfl (Rg.ev e16) (Rg.ev e19) OK) ?_;exact ⟨OL,OM⟩
  ·unfold bV
   rw [if_neg δ];intro zZ w_ n_ d_ Jh hJ hr;refine ⟨rfl,?_⟩;have e7:zZ.tmps[7]?=some (.slice (some ⟨gi,0,none⟩) (n+2) Io):=hr 7 δ;go_simp
  ·unfold bV
   rw [if_neg δ];intro zZ w_ n_ d_ Jh hJ hr;refine ⟨rfl,?_⟩;have e1:zZ.tmps[1]?=some (.int .i64 ((c:Nat):Int)):=hr 1 δ;go_simp
  ·unfold bV
   rw [if_neg δ];intro zZ w_ n_ d_ Jh hJ hr;refine ⟨rfl,?_⟩;have e22:zZ.tmps[22]?=some (.int .i64 ((c:Nat):Int)):=hr 22 δ;have ec:=Rg.ec zZ
   (first | (go_simp;done) | (go_simp;exact Rg.wr ω ω) | (go_simp;omega) | (go_simp;rfl))
  ·unfold bV
   rw [if_neg δ];intro zZ w_ n_ d_ Jh hJ hr;refine ⟨rfl,?_⟩;have e21:zZ.tmps[21]?=some (.slice (some ⟨gi,0,none⟩) (n+2) Io):=hr 21 δ;have e23:zZ.tmps[23]?=some (.int .i64 ((c:Nat)+1)):=hr 23 δ
   have hcN:((c:Nat):Int)+1<=((n+2:Nat):Int):=ω
   (first | (go_simp;done) | (go_simp;exact Rg.wr ω ω) | (go_simp;omega) | (go_simp;rfl))
  ·unfold bV
   rw [if_pos δ];intro zZ w_ d_ hJ hr;have e20:zZ.tmps[20]?=some (d_ 5):=hr 20 δ;have e24:zZ.tmps[24]?=some (.slice (if Io=c+1 then some ⟨gi,0,none⟩ else some ⟨gi,(c+1)*4,none⟩) (n+2 - (c+1)) (Io - (c+1))):=hr 24 δ;refine ⟨rfl,?_⟩;obtain ⟨Jv,In⟩:=hJ;have Jv:Rw.Own EN w_ wr.heap.size (d_ 5) (r.take c):=Jv;obtain ⟨v6,w6,OK,OL,OM⟩:=kh sp (W:=wr) 136 (r.drop (c+1)) (n+2 - (c+1)) hl2.out _ (Io - (c+1)) (F2.out.below In) Jv In In.size (by rw [hl1.out];omega);refine gH (x:=v6) (w2:=w6) (kD rfl (Rg.ev e20) (Rg.ev e24) OK) ?_;exact ⟨OL,OM⟩
  ·unfold bV
   rw [if_pos δ];intro zZ w_ d_ hJ hr;have e25:zZ.tmps[25]?=some (d_ 10):=hr 25 δ;refine ⟨rfl,?_⟩;obtain ⟨Jv,In⟩:=hJ;have Jv:Rw.Own EN w_ wr.heap.size (d_ 10) _:=Jv;refine ut (x:=.slice (some ⟨w_.heap.size,0,none⟩) 1 1) (ob:=.cells #[d_ 10] 136) (by rcases Jv.forms with ⟨q_,-⟩ | ⟨g_,c_,q_,-⟩ <;> rw [q_] at e25 ⊢ <;> (first | (go_simp;done) | (go_simp;rfl))) ?_;exact ⟨w_,rfl,rfl,Jv,In⟩
  ·unfold bV
   rw [if_pos δ];intro zZ w_ d_ hJ hr;have e15:zZ.tmps[15]?=some (vo):=hr 15 δ;have e26:zZ.tmps[26]?=some (d_ 11):=hr 26 δ;refine ⟨rfl,?_⟩;obtain ⟨w3,YF,Lx,Jv,In⟩:=hJ;subst YF;have Lx:d_ 11=.slice (some ⟨w3.heap.size,0,none⟩) 1 1:=Lx;have Jv:Rw.Own EN w3 wr.heap.size (d_ 10) _:=Jv;rw [Lx] at e26;have NI:Below w.heap.size w w3:=j_ Bi In;obtain ⟨v6,w6,OK,OL,OM⟩:=pO (W:=w) (w:=w3) 105 w.heap.size (d_ 10) _ vs2 _ _ (KS.out.below In) (Jv.down Bi.size) (KS.out.fresh Jv (IY _)) NI NI.size hlen.out;refine gH (x:=v6) (w2:=w6) (kD rfl (Rg.ev e15) (Rg.ev e26) OK) ?_;exact ⟨⟨_,OL⟩,OM⟩
  ·unfold bV
   rw [if_pos δ];intro zZ w_ d_ hJ hr;have e27:zZ.tmps[27]?=some (d_ 12):=hr 27 δ;refine ⟨rfl,?_⟩;refine gH (x:=d_ 12) (w2:=w_) (by (first | (go_simp;done) | (go_simp;rfl))) ?_;exact hJ
  intro vals wz hJ hv;simp only [bD,Rg.fill,Act.put,Nat.reduceAdd];clear hv;obtain ⟨hM2,hB2⟩:=hJ;have hM2:eV wz w.heap.size (vals 13) (mm.take i ++ [r.take c ++ r.drop (c+1)]):=hM2;rw [←hnx.out] at hM2;have hM2:=IU hM2;clear hnx KS;go_wp2
  go_roundw
  case rel=>exact ⟨i+1,_,ω,ν,rfl,hM2,hB2⟩
  case measure=>simp [intOf] <;> omega
 obtain rfl:i=n+1:=ω
 have Ks:eV wr w.heap.size vo mm:=by
  have h:=hrow.out;rw [List.take_of_length_le (by rw [LK.out];omega)] at h;exact h
 have Ks:=IU Ks;clear hrow J0;go_wp2;go_ret;exact ⟨_,rfl,Ks.out,Bi⟩
end
end Go.Proofs.YtkalaljcbmkbmaaGreat
