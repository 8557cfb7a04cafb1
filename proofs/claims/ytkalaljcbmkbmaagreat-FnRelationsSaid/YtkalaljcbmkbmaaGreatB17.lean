/-
  Joined texts: contracts and plain lemmas.
-/
import Derived.Test.YtkalaljcbmkbmaaGreatB1
import Derived.Test.YtkalaljcbmkbmaaGreatB16
import Derived.Test.YtkalaljcbmkbmaaGreatB15
import Derived.Test.YtkalaljcbmkbmaaGreatB14
import Derived.Test.YtkalaljcbmkbmaaGreatB2
import Derived.Test.YtkalaljcbmkbmaaGreatB13
set_option linter.unusedSimpArgs false
set_option linter.unusedVariables false
set_option maxRecDepth 100000
set_option maxHeartbeats 8000000
namespace Go.Proofs.YtkalaljcbmkbmaaGreat
open _root_.Go.Proofs.Tryz
section
open Go.RowKit open Gr M Rg Rw Wh
theorem M.FE (a b X Y E n:Int):aP a b (M.pX (M.J1 a b X Y E n)) (M.pY (M.J1 a b X Y E n)) (M.pE (M.J1 a b X Y E n))=true:=by
 cases h:M.J1 a b X Y E n with
 | none=>exact fY a b
 | some q=>exact vC h
theorem M.pW {a b:Int} {l:List Pt} {n:List Int} {j:Nat} {s:M.Ib} {p:Pt} {k:Int} {r:Option M.Ib} (hs:cW a b l n j=some s) (hp:l[j]?=some p) (hk:n[j]?=some k) (hr:M.J1 a b p.1 p.2.1 p.2.2 k=r) :
  cW a b l n (j+1)=if (r.isSome && bB a s.1 s.2.1 s.2.2 (M.pX r) (M.pY r) (M.pE r))=true then some (cK a s.1 s.2.1 s.2.2 (M.pX r) (M.pY r) (M.pE r),dC a s.1 s.2.1 s.2.2 (M.pX r) (M.pY r) (M.pE r),cJ a s.1 s.2.1 s.2.2 (M.pX r) (M.pY r) (M.pE r)) else none:=by
 rw [xp hs hp hk,hr]
 cases r with
 | none=>rfl
 | some q=>rfl
theorem pZ (a b:Int) (v nv:Value) (l:List Pt) (n:List Int) (w:World) (hx:dj w v l) (hnx:bs w nv n) (hp:bP a b l=true) (hf:M.fits n l.length=true) :
  cB 31 #[.agg #[a,b],v,nv] w (.tuple #[.agg #[M.pX (cW a b l n l.length),M.pY (cW a b l n l.length),M.pE (cW a b l n l.length)],.bool (cW a b l n l.length).isSome]):=by
 obtain ⟨hg,hl1,hl4,hall⟩:=cZ hp;have hfl:=(qm hf).1
 obtain ⟨res,hres⟩:∃ r,cW a b l n l.length=r:=⟨_,rfl⟩
 rw [hres]
 have hno:=IU fun j h hj=>hres.symm.trans (ky (j:=j) h l.length hj)
 have QG:=IU fun j s h=>jM (l:=l) (n:=n) hg j s h
 have PA:=IU fun (s q:M.Ib) W h1 h2=>dz a b s.1 s.2.1 s.2.2 q.1 q.2.1 q.2.2 W hg h1 h2
 have PM:=IU fun X Y E k W=>jZ a b X Y E k W
 have hf:=IU hf;have hall:=IU hall;obtain ⟨pa,LU,rfl,hpv⟩:=hx;obtain ⟨na,JI,rfl,hnl,hnc⟩:=hnx;have hnx:=IU (show bs w (.slice na n.length JI) n from ⟨na,JI,rfl,hnl,hnc⟩);obtain ⟨g,o_,rfl,L9⟩:=hpv.resolve_left (fun h=>by rw [h] at hl1;simp at hl1)
 obtain ⟨N,hN⟩:∃ N,N=l.length:=⟨_,rfl⟩
 rw [hfl] at hnx hnl ⊢;rw [←hN] at hnx hnl hno hres hf hl1 hl4 ⊢;replace hN:=IU hN;replace hres:=IU hres;have L9:=IU L9;obtain ⟨wc,hw3,C,R,B⟩:=eC w #[a,b] 25 #[(0:Int),(0:Int),(0:Int)] 40;have S:=aG.new wc #[(0:Int),(0:Int),(0:Int)] 40;have b_:=bA wc (.cells #[(0:Int),(0:Int),(0:Int)] 40);have hS:w.heap.size+1<wc.heap.size:=R.lt;go_enter func31,ntmps31
 go_wp2
 go_loopw [18] (fun vi wq=>∃ (i:Nat) (s:M.Ib),i<=N/\vi=.int .i64 (i:Int)/\Hid (cW a b l n i=some s)/\aG wq w 25 #[a,b]/\aG wq (w.heap.size+1) 40 #[(0:Int),(0:Int),(0:Int)]/\aG wq wc 40 #[s.1,s.2.1,s.2.2]/\Below w w wq) (fun vi _=>N - (intOf vi).toNat)
 case atStart=>exact ⟨0,(0,0,0),Nat.zero_le _,rfl,IU rfl,C.keep b_,R.keep b_,S,j_ B b_⟩
 case round=>
 clear C R S B b_ hw3;obtain ⟨i,⟨X,Y,E⟩,hi,rfl,hs,C,R,S,B⟩:=hrel;have hsz:=B.size;have hSl:=S.lt
 by_cases hlt:i<N
 ·obtain ⟨⟨x1,x2,x3⟩,hq⟩:∃ p,l[i]?=some p:=⟨_,List.getElem?_eq_getElem (by have:=hN.out;omega)⟩
  obtain ⟨ni,-,-⟩:=qk hf.out hlt;obtain ⟨gn,Qi,hgn,ci⟩:=(hnx.out.keep B).at ni;have ⟨p0,p1,p2⟩:=L9.out i _ hq
  dsimp only at p0 p1 p2
  replace p0:=aE B p0;replace p1:=aE B p1;replace p2:=aE B p2
  obtain ⟨r,hr⟩:∃ r,M.J1 a b x1 x2 x3 (n.getD i 0)=r:=⟨_,rfl⟩
  have hst:=pW hs.out hq ni hr;have hp1:=FE a b x1 x2 x3 (n.getD i 0)
  replace PM:=fun W=>PM.out x1 x2 x3 (n.getD i 0) W
  rw [hr] at hp1 PM
  replace PA:=fun W=>PA.out (X,Y,E) (M.pX r,M.pY r,M.pE r) W (QG.out i _ hs.out) hp1
  replace hno:=IU fun h=>hno.out (i+1) h hlt
  dsimp only at PA hst
  generalize M.pE r=y3,M.pY r=y2,M.pX r=y1 at *;generalize cJ a X Y E y1 y2 y3=z3,dC a X Y E y1 y2 y3=z2,cK a X Y E y1 y2 y3=z1 at *
  obtain ⟨f2,hf2⟩:∃ x,bB a X Y E y1 y2 y3=x:=⟨_,rfl⟩
  obtain ⟨f1,hf1⟩:∃ x,r.isSome=x:=⟨_,rfl⟩
  rw [hf2] at PA hst;rw [hf1] at PM hst;replace PA:=IU PA;replace PM:=IU PM;replace hst:=IU hst;generalize n.getD i 0=k at *;subst hgn
  have hii:((i:Nat):Int)<(N:Int):=ω
  have Bv:=bA wr (.cells #[x1,x2,x3] 40);have X_:=aG.new wr #[x1,x2,x3] 40;replace ⟨C,R,S,B⟩:=Ip Bv C R S B;replace ci:=aE Bv ci;generalize hw2:wr.alloc (.cells #[x1,x2,x3] 40)=wb at *
  go_upto_region 5 with fail
  refine Cp 10 11 40 #[(0:Int),(0:Int),(0:Int)] #[y1,y2,y3] [.is (.agg #[a,b]),.is (.agg #[x1,x2,x3]),.is (.slice (some ⟨gn,Qi,none⟩) N JI),.is (.int .i64 ((i:Nat):Int)),.is (.pointer (some ⟨gn,Qi+i,none⟩)),.is k,.is (.tuple #[.agg #[y1,y2,y3],f1]),.is (.tuple #[.agg #[y1,y2,y3],f1]),.is (.agg #[y1,y2,y3]),.is f1,.is (undef),.is (undef),.is f1] κ κ κ (fun j h1 h2=>match j,h1,h2 with | 0,h1,h2=>rfl | 1,h1,h2=>rfl | 2,h1,h2=>rfl | 3,h1,h2=>rfl | 4,h1,h2=>rfl | 5,h1,h2=>rfl | 6,h1,h2=>rfl | 7,h1,h2=>rfl | 8,h1,h2=>rfl | 9,h1,h2=>rfl | 10,h1,h2=>absurd rfl h1 | 11,h1,h2=>absurd rfl h2 | 12,h1,h2=>rfl | n+13,_,_=>rfl) δ ⟨?_,?_,?_,?_,?_,?_,?_,?_,?_,?_,?_,?_,?_,trivial⟩ ?_
  ·unfold ak
   rw [if_neg δ,if_neg δ];intro zZ w_ hB hr;have e3:zZ.tmps[3]?=some (.pointer (some ⟨w,0,none⟩)):=hr 3 δ;have k0:=aE hB C.box.c0;have k1:=aE hB C.box.c1;exact aU rfl γ
  ·unfold ak
   rw [if_neg δ,if_neg δ];intro zZ w_ hB hr;have e10:zZ.tmps[10]?=some (.pointer (some ⟨wr,0,none⟩)):=hr 10 δ;have k0:=aE hB X_.aM.1;have k1:=aE hB X_.aM.2.1;have k2:=aE hB X_.aM.2.2;exact aU rfl γ
  ·unfold ak
   rw [if_neg δ,if_neg δ];intro zZ w_ hB hr;have e2:zZ.tmps[2]?=some (.slice (some ⟨gn,Qi,none⟩) N JI):=hr 2 δ;exact aU rfl γ
  ·unfold ak
   rw [if_neg δ,if_neg δ];intro zZ w_ hB hr;have e9:zZ.tmps[9]?=some (.int .i64 ((i:Nat):Int)):=hr 9 δ;exact aU rfl γ
  ·unfold ak
   rw [if_neg δ,if_neg δ];intro zZ w_ hB hr;have e26:=Rg.t_ (hr 26 δ);have e27:=Rg.t_ (hr 27 δ);exact aU rfl (by (first | (go_simp;done) | (go_simp;omega)))
  ·unfold ak
   rw [if_neg δ,if_neg δ];intro zZ w_ hB hr;have e28:=Rg.t_ (hr 28 δ);have k0:=aE hB ci;exact aU rfl (by (first | (go_simp;done) | (go_simp;omega)))
  ·unfold ak
   rw [if_neg δ,if_neg δ];intro zZ w_ hB hr;have e24:=Rg.t_ (hr 24 δ);have e25:=Rg.t_ (hr 25 δ);have e29:=Rg.t_ (hr 29 δ);have ef:=Rg.ef zZ;exact bp rfl γ (PM.out _)
  ·unfold ak
   rw [if_neg δ,if_neg δ];intro zZ w_ hB hr;have e30:=Rg.t_ (hr 30 δ);exact aU rfl γ
  ·unfold ak
   rw [if_neg δ,if_neg δ];intro zZ w_ hB hr;have e23:=Rg.t_ (hr 23 δ);exact aU rfl γ
  ·unfold ak
   rw [if_neg δ,if_neg δ];intro zZ w_ hB hr;have e23:=Rg.t_ (hr 23 δ);exact aU rfl γ
  ·unfold ak
   rw [if_pos rfl];intro zZ w_;exact nH rfl (by first | (go_simp;done) | (go_simp;rfl))
  ·unfold ak
   rw [if_neg δ,if_pos rfl];intro zZ w_ h_ hh hn hr;have e11:zZ.tmps[11]?=some (.pointer (some ⟨h_,0,none⟩)):=hr 11 δ;have e31:=Rg.t_ (hr 31 δ);have ⟨y0,y1,y2,x0,x1,x2⟩:=hn.bJ;refine ⟨rfl,?_⟩;unfold Oper.wp;go_simp
   exact ⟨aG.ou hn _ _ _,IW (IW (IW (IX _ _) hh _) hh _) hh _⟩
  ·unfold ak
   rw [if_neg δ,if_neg δ];intro zZ w_ hB hr;have e32:=Rg.t_ (hr 32 δ);exact aU rfl γ
  intro vals wz h_ hh hn JJ hB hv;have KG:vals 12=.bool f1:=hv 12 δ δ δ;simp only [bD,Rg.fill,Act.put,Nat.reduceAdd];simp only [JJ,KG];have Le:wc.heap.size<h_:=Nat.lt_of_lt_of_le S.lt hh;replace ⟨C,R,S,B⟩:=Ip hB C R S B
  cases f1 <;> cases f2
  all_goals
   have ⟨c0,c1,_,_,_⟩:=C.box;have ⟨s0,s1,s2⟩:=S.aM;have ⟨n0,n1,n2⟩:=hn.aM
   go_wp2_with (go_at_call 50;with_reducible refine p_ (PA.out _) fun w7 Ig=>?_;replace ⟨B,C,R,S⟩:=Ip Ig B C R S;have b_:=bA w7 (.cells #[z1,z2,z3] 40);replace ⟨B,C,R,S⟩:=Ip b_ B C R S;(have ⟨r0,r1,r2,u0,u1,u2⟩:=R.bJ);(have ⟨s0,s1,s2,t0,t1,t2⟩:=S.bJ))
  iterate 3
   have hfin:=IU (hno.out hst.out);exact D_ (v:=.tuple #[.agg #[(0:Int),(0:Int),(0:Int)],false]) results31 ⟨by rw [hfin.out];rfl,JW B⟩
  go_roundw
  case rel=>exact ⟨i+1,(z1,z2,z3),ω,ν,IU hst.out,((C.other ω _).other ω _).other ω _,((R.other ω _).other ω _).other ω _,S.ou _ _ _,JW B⟩
  case measure=>simp [intOf];omega
 obtain rfl:i=N:=ω
 have hfin:=IU (hres.out.symm.trans hs.out);have ⟨s0,s1,s2⟩:=S.aM;have ⟨r0,r1,r2,u0,u1,u2⟩:=R.bJ;go_wp2;exact D_ (v:=.tuple #[.agg #[X,Y,E],true]) results31 ⟨by rw [hfin.out];rfl,JW B⟩
theorem M.ub {a b:Int} {l:List Pt} {n:List Int} (h:(bP a b l && M.fits n l.length)=false):M.Jw a b l n=false/\(fK a b l n).isSome=false:=by
 have e:fK a b l n=none:=if_neg (by rw [h];decide);unfold M.Jw;rw [e];exact ⟨rfl,rfl⟩
theorem M.qZ {a b:Int} {l:List Pt} {n:List Int} (h1:bP a b l=true) (h2:M.fits n l.length=true):fK a b l n=cW a b l n l.length:=if_pos (by rw [h1,h2];rfl)
theorem gc (a b:Int) (v nv:Value) (l:List Pt) (n:List Int) (w:World) (hx:dj w v l) (hnx:bs w nv n) (hn:l.length<=4000000) :
  cB 10 #[.agg #[a,b],v,nv] w (.tuple #[M.Jw a b l n,.bool (fK a b l n).isSome]):=by
 have PL:=fun W h=>jF a b v l W h hn
 obtain ⟨pa,LU,hpv,-⟩:=id hx
 have PF:=fun W (h:bs W nv n)=>pH pa l.length LU nv n W h
 rw [←hpv] at PF
 have PC:=fun h1 h2 W hx hnx=>pZ a b v nv l n W hx hnx h1 h2
 have PZ:=fun W h=>tL nv n W h
 have e0:=fun h=>ub (a:=a) (b:=b) (l:=l) (n:=n) h
 have e1:=fun h1 h2=>qZ (a:=a) (b:=b) (l:=l) (n:=n) h1 h2
 have hok:=fun hg j s h=>jM (a:=a) (b:=b) (l:=l) (n:=n) hg j s h
 have hpg:=fun h=>(cZ (a:=a) (b:=b) (l:=l) h).1
 obtain ⟨na,JI,RE,hnl,hnc⟩:=hnx;have hnx:=IU (show bs w nv n from ⟨na,JI,RE,hnl,hnc⟩);replace hx:=IU hx;subst RE hpv;generalize n.length=K,l.length=N at *;obtain ⟨wc,hw3,C,B⟩:=cf w #[a,b] 25;have ⟨c0,c1,_,_,_⟩:=C.box;replace PL:=IU PL;replace PF:=IU PF;replace PZ:=IU PZ
 cases hp:bP a b l <;> cases hf:M.fits n N
 iterate 3
  obtain ⟨r1,r2⟩:=e0 (by rw [hp,hf];rfl);rw [r1,r2];rw [hp] at PL;rw [hf] at PF;replace PL:=IU PL.out;replace PF:=IU PF.out;go_enter func10,ntmps10
  go_wp2_with first | (go_at_call 27;with_reducible refine p_ (PL.out _ (hx.out.below B)) fun w4 hb4=>?_;replace ⟨B,C⟩:=Im hb4 B C;(have ⟨c0,c1,_,_,_⟩:=C.box)) | (go_at_call 37;with_reducible refine p_ (PF.out _ (hnx.out.keep B)) fun w5 hb5=>?_;replace ⟨B,C⟩:=Im hb5 B C;(have ⟨c0,c1,_,_,_⟩:=C.box))
  go_ret2;exact ⟨rfl,B⟩
 rw [hp] at PL;rw [hf] at PF;replace PL:=IU PL.out;replace PF:=IU PF.out;replace PC:=PC hp hf;have hg:=hpg hp;have hv:=e1 hp hf
 have hrl:M.Jw a b l n=(cW a b l n N).any fun s=>M.nz n && dD a s:=by unfold M.Jw;rw [hv]
 rw [hrl,hv]
 obtain ⟨r,hr⟩:∃ r,cW a b l n N=r:=⟨_,rfl⟩
 rw [hr] at PC ⊢
 cases r with
 | none=>
  have PC:∀ W,dj W (.slice pa N LU) l->bs W (.slice na K JI) n->cB 31 #[.agg #[a,b],.slice pa N LU,.slice na K JI] W (.tuple #[.agg #[(0:Int),(0:Int),(0:Int)],false]):=PC;rw [show (none:Option M.Ib).any (fun s=>M.nz n && dD a s)=false from rfl,show (none:Option M.Ib).isSome=false from rfl];replace PC:=IU PC;go_enter func10,ntmps10
  go_wp2_with first | (go_at_call 27;with_reducible refine p_ (PL.out _ (hx.out.below B)) fun w4 hb4=>?_;replace ⟨B,C⟩:=Im hb4 B C;(have ⟨c0,c1,_,_,_⟩:=C.box)) | (go_at_call 37;with_reducible refine p_ (PF.out _ (hnx.out.keep B)) fun w5 hb5=>?_;replace ⟨B,C⟩:=Im hb5 B C;(have ⟨c0,c1,_,_,_⟩:=C.box)) | (go_at_call 31;with_reducible refine p_ (PC.out _ (hx.out.below B) (hnx.out.keep B)) fun w6 hb6=>?_;replace ⟨B,C⟩:=Im hb6 B C;have X_:=aG.new w6 #[(0:Int),(0:Int),(0:Int)] 40;have b_:=bA w6 (.cells #[(0:Int),(0:Int),(0:Int)] 40);replace ⟨B,C⟩:=Im b_ B C;(have ⟨c0,c1,_,_,_⟩:=C.box))
  go_ret2;exact ⟨rfl,B⟩
 | some s=>
 obtain ⟨X,Y,E⟩:=s;have ht:=uH hg (hok hg _ _ hr)
 have PT:=fun W=>iV a b W hg
 have PX:=fun (v:Value) W (h:eD W v (lc a b)) (hl:(lc a b).length<=12100)=>kF X Y E v (lc a b) W h hl
 dsimp only at ht
 rw [ht] at PX;have PC:∀ W,dj W (.slice pa N LU) l->bs W (.slice na K JI) n->cB 31 #[.agg #[a,b],.slice pa N LU,.slice na K JI] W (.tuple #[.agg #[X,Y,E],true]):=PC;rw [show (some (X,Y,E)).any (fun s=>M.nz n && dD a s)=(M.nz n && (gG a X Y E).isSome) from rfl,show (some (X,Y,E)).isSome=true from rfl];generalize lc a b=ts,(gG a X Y E).isSome=res at *;replace PC:=IU PC;replace PT:=IU PT;replace PX:=IU PX
 cases hz:M.nz n
 ·rw [hz] at PZ
  replace PZ:=IU PZ.out;go_enter func10,ntmps10
  go_upto_region 6 with first | (go_at_call 27;with_reducible refine p_ (PL.out _ (hx.out.below B)) fun w4 hb4=>?_;replace ⟨B,C⟩:=Im hb4 B C;(have ⟨c0,c1,_,_,_⟩:=C.box)) | (go_at_call 37;with_reducible refine p_ (PF.out _ (hnx.out.keep B)) fun w5 hb5=>?_;replace ⟨B,C⟩:=Im hb5 B C;(have ⟨c0,c1,_,_,_⟩:=C.box)) | (go_at_call 31;with_reducible refine p_ (PC.out _ (hx.out.below B) (hnx.out.keep B)) fun w6 hb6=>?_;replace ⟨B,C⟩:=Im hb6 B C;have X_:=aG.new w6 #[X,Y,E] 40;have b_:=bA w6 (.cells #[X,Y,E] 40);replace ⟨B,C⟩:=Im b_ B C;(have ⟨c0,c1,_,_,_⟩:=C.box))
  have QI:=hnx.out.keep B;generalize w6.alloc (.cells #[X,Y,E] 40)=wd at *;refine b8 11 [.is (.slice na K JI),.is true,.is false,.is false,.is (undef),.is (undef),.is (undef),.is (undef),.is false,.is false,.is true] κ κ κ ⟨?_,?_,?_,?_,?_,?_,?_,?_,?_,?_,?_,trivial⟩ ?_
  all_goals try ((first | (refine Rg.b0 ?_;intro zZ w_ hB) | (refine Rg.b1 ?_;intro zZ w_ hB e) | (refine Rg.b2 ?_;intro zZ w_ hB e f));have ec:=Rg.ec zZ;(go_simp;done))
  ·refine Rg.o1 ?_;intro zZ w_ hB e
   have ef:=Rg.ef zZ;exact bp rfl γ (PZ.out _ (QI.keep hB))
  ·exact Rg.sk 32
  ·exact Rg.sk 32
  ·exact Rg.sk 32
  ·exact Rg.sk 32
  intro vals wz hB hv hne;have J9:vals 9=.bool false:=hv 9 δ;have JJ:vals 10=.bool true:=hv 10 δ;simp only [bD,Rg.fill,Act.put,Nat.reduceAdd];simp only [J9,JJ];replace B:=j_ B hB;unfold aV;go_wp2;go_ret2;exact ⟨rfl,B⟩
 rw [hz] at PZ;replace PZ:=IU PZ.out;go_enter func10,ntmps10
 go_upto_region 6 with first | (go_at_call 27;with_reducible refine p_ (PL.out _ (hx.out.below B)) fun w4 hb4=>?_;replace ⟨B,C⟩:=Im hb4 B C;(have ⟨c0,c1,_,_,_⟩:=C.box)) | (go_at_call 37;with_reducible refine p_ (PF.out _ (hnx.out.keep B)) fun w5 hb5=>?_;replace ⟨B,C⟩:=Im hb5 B C;(have ⟨c0,c1,_,_,_⟩:=C.box)) | (go_at_call 31;with_reducible refine p_ (PC.out _ (hx.out.below B) (hnx.out.keep B)) fun w6 hb6=>?_;replace ⟨B,C⟩:=Im hb6 B C;have X_:=aG.new w6 #[X,Y,E] 40;have b_:=bA w6 (.cells #[X,Y,E] 40);replace ⟨B,C⟩:=Im b_ B C;(have ⟨c0,c1,_,_,_⟩:=C.box))
 have QI:=hnx.out.keep B;generalize w6.alloc (.cells #[X,Y,E] 40)=wd at *;refine b8 11 [.is (.slice na K JI),.is false,.is true,.is true,.is (.agg #[a,b]),.at (fun v W=>eD W v ts/\ts.length<=12100),.is (.agg #[X,Y,E]),.is res,.is res,.is res,.is true] κ κ κ ⟨?_,?_,?_,?_,?_,?_,?_,?_,?_,?_,?_,trivial⟩ ?_
 all_goals try ((first | (refine Rg.b0 ?_;intro zZ w_ hB) | (refine Rg.b1 ?_;intro zZ w_ hB e) | (refine Rg.b2 ?_;intro zZ w_ hB e f));have ec:=Rg.ec zZ;(go_simp;done))
 ·refine Rg.o1 ?_;intro zZ w_ hB e
  have ef:=Rg.ef zZ;exact bp rfl γ (PZ.out _ (QI.keep hB))
 ·intro _ zZ w_ hB hr
  have e3:zZ.tmps[3]?=some (.pointer (some ⟨w,0,none⟩)):=hr 3 δ;have e32:=Rg.t_ (hr 32 δ);have Ii:=C.keep hB;have ⟨k0,k1,_,_,_⟩:=Ii.box;exact aU (bf (j:=3) (b:=true) rfl (Rg.Jd rfl e32)) (by (first | (go_simp;done)))
 ·intro _ zZ w_ hB hr
  have e32:=Rg.t_ (hr 32 δ);have e33:=Rg.t_ (hr 33 δ);have ef:=Rg.ef zZ;refine af (bf (j:=3) (b:=true) rfl (Rg.Jd rfl e32)) τ ?_;refine (PT.out w_).mono ?_;rintro e w5 ⟨v5,rfl,JU,hl5,hb5⟩;exact ⟨_,rfl,fun w6 hb6=>⟨JU.below hb6,hl5⟩,hb5⟩
 ·intro _ zZ w_ hB hr
  have e8:zZ.tmps[8]?=some (.pointer (some ⟨w6,0,none⟩)):=hr 8 δ;have e32:=Rg.t_ (hr 32 δ);have Ii:=X_.keep hB;have ⟨k0,k1,k2⟩:=Ii.aM;exact aU (bf (j:=3) (b:=true) rfl (Rg.Jd rfl e32)) (by (first | (go_simp;done)))
 ·intro _ zZ w_ hB hr
  have e32:=Rg.t_ (hr 32 δ);obtain ⟨v34,e34,n34⟩:∃ v,zZ.tmps[34]?=some v/\(Rg.Val.at (fun v W=>eD W v ts/\ts.length<=12100)).ok v w_:=hr 34 δ;have e35:=Rg.t_ (hr 35 δ);have ef:=Rg.ef zZ;exact bp (bf (j:=3) (b:=true) rfl (Rg.Jd rfl e32)) γ (PX.out v34 w_ (cE n34).1 (cE n34).2)
 intro vals wz hB hv hne;have J9:vals 9=.bool res:=hv 9 δ;have JJ:vals 10=.bool true:=hv 10 δ;simp only [bD,Rg.fill,Act.put,Nat.reduceAdd];simp only [J9,JJ];replace B:=j_ B hB;unfold aV;go_wp2;go_ret2;exact ⟨rfl,B⟩
theorem M.GO {a b:Int} {l:List Pt} {n:List Int} {j:Nat} {p:Pt} (hp:bP a b l=true) (hf:M.fits n l.length=true) (hj:j<l.length) (hl:l[j]?=some p):M.J1 a b p.1 p.2.1 p.2.2 (n.getD j 0)=gD a p.1 p.2.1 p.2.2 (n.getD j 0):=by
 obtain ⟨hg,-,-,hall⟩:=cZ hp;obtain ⟨-,h1,h2⟩:=qk hf hj
 have hi:eI a b p.1 p.2.1 p.2.2=true:=by unfold eI;rw [hg,hall p (List.mem_of_getElem? hl)];rfl
 unfold M.J1;rw [hi,bT.2 ⟨h1,h2⟩];rfl
theorem wZ (l:List Int) (v:Value) (lo hi:Int) (w:World) (hx:bs w v l) :
  cB 77 #[v,lo,hi] w (l.all (fun x=>M.ins x lo hi)):=by
 obtain ⟨a,cap,rfl,hm,hv⟩:=hx;have hv:=IU hv
 obtain ⟨N,hN⟩:∃ N,Hid (l.length=N):=⟨_,IU rfl⟩
 rw [hN.out] at hv hm ⊢;go_enter func77,ntmps77
 go_wp2
 go_loopw [8,11] (fun _ vi wr=>∃ k:Nat,k<=N/\vi=.int .i64 k/\Hid ((l.take k).all (fun x=>M.ins x lo hi)=true)/\Below w w wr) (fun _ vi _=>N - (intOf vi).toNat)
 case atStart=>exact ⟨0,Nat.zero_le _,rfl,IU rfl,IX _ _⟩
 case round=>
 obtain ⟨k,hk,rfl,hall,hbr⟩:=hrel
 by_cases hlt:k<N
 ·obtain ⟨g,o,y,rfl,hg,hy,hcell⟩:=hv.out k hlt
  have hc:=aE hbr hcell
  have PI:=fun W=>dW y lo hi W
  have hno:M.ins y lo hi=false->l.all (fun x=>M.ins x lo hi)=false:=fun h=>by
   cases q:l.all (fun x=>M.ins x lo hi)
   ·rfl
   rw [List.all_eq_true] at q;rw [q y (List.mem_of_getElem? hy.out)] at h;cases h
  have hnx:M.ins y lo hi=true->(l.take (k+1)).all (fun x=>M.ins x lo hi)=true:=fun h=>by
   rw [List.take_add_one,hy.out,List.all_append,hall.out]
   simpa using h
  generalize M.ins y lo hi=t at *;cases t
  ·replace PI:=IU PI
   have hfin:=IU (hno rfl);clear hcell hy hno hnx
   go_wp2_with (go_at_call 35;with_reducible refine Id (PI.out _) ?_)
   go_ret;exact ⟨by rw [hfin.out];rfl,hbr⟩
  replace PI:=IU PI;have hfin:=IU (hnx rfl);clear hcell hy hno hnx
  go_wp2_with (go_at_call 35;with_reducible refine Id (PI.out _) ?_)
  go_roundw
  case rel=>exact ⟨k+1,ω,ν,hfin,hbr⟩
  case measure=>simp [intOf];omega
 obtain rfl:k=N:=ω
 have hfin:=hall;rw [←hN.out,List.take_length] at hfin;go_wp2;go_ret;exact ⟨by rw [hfin.out];rfl,hbr⟩
theorem l9 (a:Option Addr) (m cap:Nat) (v:Value) (n:List Int) (w:World) (hx:bs w v n) :
  cB 43 #[.slice a m cap,v] w (M.fits n m):=by
 have PF:=wZ n v (-12) 12 w hx;have hfit:M.fits n m=(((n.length:Int) == (m:Int)) && n.all (fun x=>M.ins x (-12) 12)):=rfl;obtain ⟨sa,cp,rfl,-,-⟩:=hx;have PF:=IU PF;rw [hfit];generalize n.all (fun x=>M.ins x (-12) 12)=t at *;clear hfit;generalize n.length=N at *
 cases hc:((N:Int) == (m:Int))
 ·clear PF
  go_enter func43,ntmps43
  go_wp2;go_ret;exact ⟨rfl,IX _ _⟩
 go_enter func43,ntmps43
 go_wp2_with (go_at_call 77;(refine PF.out.mono ?_);rintro e w4 ⟨rfl,hb4⟩)
 go_ret;exact ⟨rfl,hb4⟩
theorem jd (a b:Int) (v nv:Value) (l:List Pt) (n:List Int) (w:World) (hx:dj w v l) (hns:bs w nv n) (hn:l.length<=4000000) :
  cB 78 #[.agg #[a,b],v,nv] w (.tuple #[.agg #[M.pX (fK a b l n),M.pY (fK a b l n),M.pE (fK a b l n)],.bool (fK a b l n).isSome]):=by
 have PL:=fun W h=>ny a b v l W h hn
 obtain ⟨pa,LU,hpv,hpv2⟩:=id hx
 have PF:=fun W (h:bs W nv n)=>l9 pa l.length LU nv n W h
 rw [←hpv] at PF;replace hx:=IU hx;have hnx:=IU hns;replace hns:=IU hns;obtain ⟨na,JI,rfl,hnl,-⟩:=id hns.out;subst hpv
 obtain ⟨N,hN⟩:∃ N,N=l.length:=⟨_,rfl⟩
 obtain ⟨wc,hw3,C,R,B⟩:=eC w #[a,b] 25 #[(0:Int),(0:Int),(0:Int)] 40;have ⟨c0,c1,_,_,_⟩:=C.box;have ⟨r0,r1,r2,u0,u1,u2⟩:=R.bJ
 have e0:=fun h=>ub (a:=a) (b:=b) (l:=l) (n:=n) h
 have e1:=fun h1 h2=>qZ (a:=a) (b:=b) (l:=l) (n:=n) h1 h2
 have e2:=fun hp hf (j:Nat) (p:Pt)=>GO (a:=a) (b:=b) (l:=l) (n:=n) (j:=j) (p:=p) hp hf
 have hpl:=fun h=>cZ (a:=a) (b:=b) (l:=l) h
 have SJ:=fun h=>qm (n:=n) (k:=l.length) h
 have hfa:=fun h=>fun i=>qk (n:=n) (k:=l.length) (i:=i) h
 have hcn:(bP a b l && M.fits n l.length)=false->fK a b l n=none:=fun h=>if_neg (by rw [h];decide)
 rw [←hN] at PL PF hx e0 e1 e2 hpl SJ hfa hcn ⊢;replace PL:=IU PL;replace PF:=IU PF
 cases hp:bP a b l <;> cases hf:M.fits n N
 iterate 3
  have hfin:=IU (hcn (by rw [hp,hf];rfl));rw [hp] at PL;rw [hf] at PF;replace PL:=IU PL.out;replace PF:=IU PF.out;clear e0 e1 e2 hpl SJ hfa hcn hp hf hpv2 hN hnx;go_enter func78,ntmps78
  go_wp2_with first | (go_at_call 39;with_reducible refine p_ (PL.out _ (hx.out.below B)) fun w4 hb4=>?_;replace ⟨B,C,R⟩:=I7 hb4 B C R;(have ⟨c0,c1,_,_,_⟩:=C.box);(have ⟨r0,r1,r2,u0,u1,u2⟩:=R.bJ)) | (go_at_call 43;with_reducible refine p_ (PF.out _ (hns.out.keep B)) fun w5 hb5=>?_;replace ⟨B,C,R⟩:=I7 hb5 B C R;(have ⟨c0,c1,_,_,_⟩:=C.box);(have ⟨r0,r1,r2,u0,u1,u2⟩:=R.bJ))
  exact D_ (v:=.tuple #[.agg #[(0:Int),(0:Int),(0:Int)],false]) results78 ⟨by rw [hfin.out];rfl,JW B⟩
 rw [hp] at PL;rw [hf] at PF;replace PL:=IU PL.out;replace PF:=IU PF.out;rw [e1 hp hf];replace e2:=IU (e2 hp hf)
 replace hfa:=IU fun i=>hfa hf i
 obtain ⟨hg,hl1,hl4,hall⟩:=hpl hp;have hfl:=(SJ hf).1;clear e0 e1 hpl SJ hcn hp hf
 obtain ⟨res,hres⟩:∃ r,cW a b l n N=r:=⟨_,rfl⟩
 rw [hres]
 have hno:=IU fun j h hj=>hres.symm.trans (ky (j:=j) h N hj)
 have QG:=IU fun j s h=>jM (l:=l) (n:=n) hg j s h
 have PA:=IU fun (s q:M.Ib) W h1 h2=>kV a b s.1 s.2.1 s.2.2 q.1 q.2.1 q.2.2 W hg h1 h2
 have PM:=IU fun X Y E k W h h1 h2=>gu a b X Y E k W hg h h1 h2
 replace hall:=IU hall;obtain ⟨g,o_,rfl,L9⟩:=hpv2.resolve_left (fun h=>by rw [h] at hN;simp at hN;omega);rw [hfl] at PF hnx hns hnl ⊢;replace hN:=IU hN;replace hres:=IU hres;have L9:=IU L9;clear hfl hg hpv2;go_enter func78,ntmps78
 go_wp2_with first | (go_at_call 39;with_reducible refine p_ (PL.out _ (hx.out.below B)) fun w4 hb4=>?_;replace ⟨B,C,R⟩:=I7 hb4 B C R;(have ⟨c0,c1,_,_,_⟩:=C.box);(have ⟨r0,r1,r2,u0,u1,u2⟩:=R.bJ)) | (go_at_call 43;with_reducible refine p_ (PF.out _ (hns.out.keep B)) fun w5 hb5=>?_;replace ⟨B,C,R⟩:=I7 hb5 B C R;(have ⟨c0,c1,_,_,_⟩:=C.box);(have ⟨r0,r1,r2,u0,u1,u2⟩:=R.bJ))
 have S:=aG.new w5 #[(0:Int),(0:Int),(0:Int)] 40;have b_:=bA w5 (.cells #[(0:Int),(0:Int),(0:Int)] 40);have hS:w.heap.size+1<w5.heap.size:=R.lt;clear hw3
 go_loopw [29] (fun vi wq=>∃ (i:Nat) (s:M.Ib),i<=N/\vi=.int .i64 (i:Int)/\Hid (cW a b l n i=some s)/\aG wq w 25 #[a,b]/\aG wq (w.heap.size+1) 40 #[(0:Int),(0:Int),(0:Int)]/\aG wq w5 40 #[s.1,s.2.1,s.2.2]/\Below w w wq) (fun vi _=>N - (intOf vi).toNat)
 case atStart=>exact ⟨0,(0,0,0),Nat.zero_le _,rfl,IU rfl,C.keep b_,R.keep b_,S,j_ B b_⟩
 case round=>
 clear C R S B b_ c0 c1 r0 r1 r2 u0 u1 u2;generalize w5.heap.size=sb at *;obtain ⟨i,⟨X,Y,E⟩,hi,rfl,hs,C,R,S,B⟩:=hrel;have hsz:=B.size;have hSl:=S.lt
 by_cases hlt:i<N
 ·obtain ⟨⟨x1,x2,x3⟩,hq⟩:∃ p,l[i]?=some p:=⟨_,List.getElem?_eq_getElem (by have:=hN.out;omega)⟩
  obtain ⟨ni,YT,nb2⟩:=hfa.out i hlt;obtain ⟨gn,Qi,hgn,ci⟩:=(hnx.out.keep B).at ni;have ⟨p0,p1,p2⟩:=L9.out i _ hq
  dsimp only at p0 p1 p2
  replace p0:=aE B p0;replace p1:=aE B p1;replace p2:=aE B p2
  obtain ⟨r,hr⟩:∃ r,M.J1 a b x1 x2 x3 (n.getD i 0)=r:=⟨_,rfl⟩
  have hst:=pW hs.out hq ni hr;have hp1:=FE a b x1 x2 x3 (n.getD i 0);have ht:=e2.out i _ hlt hq
  replace PM:=fun W=>PM.out x1 x2 x3 (n.getD i 0) W (hall.out _ (List.mem_of_getElem? hq)) ω ω
  dsimp only at ht
  rw [←ht,hr] at PM;rw [hr] at hp1;clear ht
  replace PA:=fun W=>PA.out (X,Y,E) (M.pX r,M.pY r,M.pE r) W (QG.out i _ hs.out) hp1
  replace hno:=IU fun h=>hno.out (i+1) h hlt
  dsimp only at PA hst
  generalize M.pE r=y3,M.pY r=y2,M.pX r=y1 at *;generalize cJ a X Y E y1 y2 y3=z3,dC a X Y E y1 y2 y3=z2,cK a X Y E y1 y2 y3=z1 at *
  obtain ⟨f2,hf2⟩:∃ x,bB a X Y E y1 y2 y3=x:=⟨_,rfl⟩
  obtain ⟨f1,hf1⟩:∃ x,r.isSome=x:=⟨_,rfl⟩
  rw [hf2] at PA hst;rw [hf1] at PM hst;clear hf1 hf2 hr hp1 hq YT nb2;replace PA:=IU PA;replace PM:=IU PM;replace hst:=IU hst;generalize n.getD i 0=k at *;subst hgn
  have hii:((i:Nat):Int)<(N:Int):=ω
  have Bv:=bA wr (.cells #[x1,x2,x3] 40);have X_:=aG.new wr #[x1,x2,x3] 40;replace ⟨C,R,S,B⟩:=Ip Bv C R S B;replace ci:=aE Bv ci;generalize hw2:wr.alloc (.cells #[x1,x2,x3] 40)=wb at *;clear Bv ni
  go_upto_region 7 with fail
  refine Cp 10 11 40 #[(0:Int),(0:Int),(0:Int)] #[y1,y2,y3] [.is (.agg #[a,b]),.is (.agg #[x1,x2,x3]),.is (.slice (some ⟨gn,Qi,none⟩) N JI),.is (.int .i64 ((i:Nat):Int)),.is (.pointer (some ⟨gn,Qi+i,none⟩)),.is k,.is (.tuple #[.agg #[y1,y2,y3],f1]),.is (.tuple #[.agg #[y1,y2,y3],f1]),.is (.agg #[y1,y2,y3]),.is f1,.is (undef),.is (undef),.is f1] κ κ κ (fun j h1 h2=>match j,h1,h2 with | 0,h1,h2=>rfl | 1,h1,h2=>rfl | 2,h1,h2=>rfl | 3,h1,h2=>rfl | 4,h1,h2=>rfl | 5,h1,h2=>rfl | 6,h1,h2=>rfl | 7,h1,h2=>rfl | 8,h1,h2=>rfl | 9,h1,h2=>rfl | 10,h1,h2=>absurd rfl h1 | 11,h1,h2=>absurd rfl h2 | 12,h1,h2=>rfl | n+13,_,_=>rfl) δ ⟨?_,?_,?_,?_,?_,?_,?_,?_,?_,?_,?_,?_,?_,trivial⟩ ?_
  ·unfold ak
   rw [if_neg δ,if_neg δ];intro zZ w_ hB hr;have e3:zZ.tmps[3]?=some (.pointer (some ⟨w,0,none⟩)):=hr 3 δ;have k0:=aE hB C.box.c0;have k1:=aE hB C.box.c1;exact aU rfl γ
  ·unfold ak
   rw [if_neg δ,if_neg δ];intro zZ w_ hB hr;have e10:zZ.tmps[10]?=some (.pointer (some ⟨wr,0,none⟩)):=hr 10 δ;have k0:=aE hB X_.aM.1;have k1:=aE hB X_.aM.2.1;have k2:=aE hB X_.aM.2.2;exact aU rfl γ
  ·unfold ak
   rw [if_neg δ,if_neg δ];intro zZ w_ hB hr;have e2:zZ.tmps[2]?=some (.slice (some ⟨gn,Qi,none⟩) N JI):=hr 2 δ;exact aU rfl γ
  ·unfold ak
   rw [if_neg δ,if_neg δ];intro zZ w_ hB hr;have e9:zZ.tmps[9]?=some (.int .i64 ((i:Nat):Int)):=hr 9 δ;exact aU rfl γ
  ·unfold ak
   rw [if_neg δ,if_neg δ];intro zZ w_ hB hr;have e37:=Rg.t_ (hr 37 δ);have e38:=Rg.t_ (hr 38 δ);exact aU rfl (by (first | (go_simp;done) | (go_simp;omega)))
  ·unfold ak
   rw [if_neg δ,if_neg δ];intro zZ w_ hB hr;have e39:=Rg.t_ (hr 39 δ);have k0:=aE hB ci;exact aU rfl (by (first | (go_simp;done) | (go_simp;omega)))
  ·unfold ak
   rw [if_neg δ,if_neg δ];intro zZ w_ hB hr;have e35:=Rg.t_ (hr 35 δ);have e36:=Rg.t_ (hr 36 δ);have e40:=Rg.t_ (hr 40 δ);have ef:=Rg.ef zZ;exact bp rfl γ (PM.out _)
  ·unfold ak
   rw [if_neg δ,if_neg δ];intro zZ w_ hB hr;have e41:=Rg.t_ (hr 41 δ);exact aU rfl γ
  ·unfold ak
   rw [if_neg δ,if_neg δ];intro zZ w_ hB hr;have e34:=Rg.t_ (hr 34 δ);exact aU rfl γ
  ·unfold ak
   rw [if_neg δ,if_neg δ];intro zZ w_ hB hr;have e34:=Rg.t_ (hr 34 δ);exact aU rfl γ
  ·unfold ak
   rw [if_pos rfl];intro zZ w_;exact nH rfl (by first | (go_simp;done) | (go_simp;rfl))
  ·unfold ak
   rw [if_neg δ,if_pos rfl];intro zZ w_ h_ hh hn hr;have e11:zZ.tmps[11]?=some (.pointer (some ⟨h_,0,none⟩)):=hr 11 δ;have e42:=Rg.t_ (hr 42 δ);have ⟨y0,y1,y2,x0,x1,x2⟩:=hn.bJ;refine ⟨rfl,?_⟩;unfold Oper.wp;go_simp
   exact ⟨aG.ou hn _ _ _,IW (IW (IW (IX _ _) hh _) hh _) hh _⟩
  ·unfold ak
   rw [if_neg δ,if_neg δ];intro zZ w_ hB hr;have e43:=Rg.t_ (hr 43 δ);exact aU rfl γ
  intro vals wz h_ hh hn JJ hB hv;have KG:vals 12=.bool f1:=hv 12 δ δ δ;simp only [bD,Rg.fill,Act.put,Nat.reduceAdd];clear hv;simp only [JJ,KG];clear JJ KG;have Le:sb<h_:=Nat.lt_of_lt_of_le S.lt hh;replace ⟨C,R,S,B⟩:=Ip hB C R S B;clear hB X_ ci p0 p1 p2 hw2
  cases f1 <;> cases f2
  all_goals
   have ⟨c0,c1,_,_,_⟩:=C.box;have ⟨s0,s1,s2⟩:=S.aM;have ⟨n0,n1,n2⟩:=hn.aM;have ⟨r0,r1,r2,u0,u1,u2⟩:=R.bJ
   go_wp2_with (go_at_call 55;with_reducible refine p_ (PA.out _) fun w7 Ig=>?_;replace ⟨B,C,R,S⟩:=Ip Ig B C R S;have b_:=bA w7 (.cells #[z1,z2,z3] 40);replace ⟨B,C,R,S⟩:=Ip b_ B C R S;(have ⟨r0,r1,r2,u0,u1,u2⟩:=R.bJ);(have ⟨s0,s1,s2,t0,t1,t2⟩:=S.bJ))
  iterate 3
   have hfin:=IU (hno.out hst.out);exact D_ (v:=.tuple #[.agg #[(0:Int),(0:Int),(0:Int)],false]) results78 ⟨by rw [hfin.out];rfl,JW B⟩
  go_roundw
  case rel=>exact ⟨i+1,(z1,z2,z3),ω,ν,IU hst.out,((C.other ω _).other ω _).other ω _,((R.other ω _).other ω _).other ω _,S.ou _ _ _,JW B⟩
  case measure=>simp [intOf];omega
 obtain rfl:i=N:=ω
 have hfin:=IU (hres.out.symm.trans hs.out);have ⟨s0,s1,s2⟩:=S.aM;have ⟨r0,r1,r2,u0,u1,u2⟩:=R.bJ;go_wp2;exact D_ (v:=.tuple #[.agg #[X,Y,E],true]) results78 ⟨by rw [hfin.out];rfl,JW B⟩
theorem M.GR (n:List Int):n.all (fun x=>M.ins x 0 0)=!M.nz n:=by
 unfold M.nz;rw [List.not_any_eq_all_not]
 congr 1
 funext x
 rw [Bool.not_not,Bool.eq_iff_iff,bT,beq_iff_eq];omega
theorem M.DG {a b:Int} {l:List Pt} {n:List Int} {s:M.Ib} (h:fK a b l n=some s):M.good a b=true/\aP a b s.1 s.2.1 s.2.2=true:=by
 unfold fK at h
 split at h
 ·rename_i hc
  have hg:=(cZ (Bool.and_eq_true_iff.1 hc).1).1;exact ⟨hg,jM hg _ _ h⟩
 cases h
theorem kL (a b:Int) (v nv:Value) (l:List Pt) (n:List Int) (w:World) (hx:dj w v l) (hns:bs w nv n) (hn:l.length<=4000000) :
  cB 44 #[.agg #[a,b],v,nv] w (.tuple #[M.Jw a b l n,.bool (fK a b l n).isSome]):=by
 have PC:=fun W h1 h2=>jd a b v nv l n W h1 h2 hn
 have PA:=fun W h=>wZ n nv 0 0 W h
 rw [GR] at PA
 have hok:=fun s h=>DG (a:=a) (b:=b) (l:=l) (n:=n) (s:=s) h
 unfold M.Jw
 obtain ⟨r,hr⟩:∃ r,fK a b l n=r:=⟨_,rfl⟩
 rw [hr] at PC hok ⊢;clear hr;obtain ⟨sa,cap,rfl⟩:=OW hx;obtain ⟨na,JI,RE,-,-⟩:=id hns;subst RE;replace hx:=IU hx;replace hns:=IU hns;obtain ⟨wc,hw3,C,B⟩:=cf w #[a,b] 25;have ⟨c0,c1,_,_,_⟩:=C.box;generalize n.length=K,l.length=L,M.nz n=z at *
 cases r with
 | none=>
  replace PC:Hid (∀ W,dj W (.slice sa L cap) l->bs W (.slice na K JI) n->cB 78 #[.agg #[a,b],.slice sa L cap,.slice na K JI] W (.tuple #[.agg #[(0:Int),(0:Int),(0:Int)],false])):=IU PC;rw [show (none:Option M.Ib).any (fun s=>z && dD a s)=false from rfl,show (none:Option M.Ib).isSome=false from rfl];clear hok PA;go_enter func44,ntmps44
  go_wp2_with (go_at_call 78;with_reducible refine p_ (PC.out _ (hx.out.below B) (hns.out.keep B)) fun w4 hb4=>?_;replace B:=j_ B hb4)
  go_ret2;exact ⟨rfl,B.trans ((bA w4 (.cells #[(0:Int),(0:Int),(0:Int)] 40)).mono B.size)⟩
 | some s=>
 obtain ⟨X,Y,E⟩:=s;obtain ⟨hg,hp⟩:=hok _ rfl
 have PO:=fun W=>yh a b X Y E W hg hp
 rw [show (some (X,Y,E)).any (fun s=>z && dD a s)=(z && (gG a X Y E).isSome) from rfl];replace PC:Hid (∀ W,dj W (.slice sa L cap) l->bs W (.slice na K JI) n->cB 78 #[.agg #[a,b],.slice sa L cap,.slice na K JI] W (.tuple #[.agg #[X,Y,E],true])):=IU PC;clear hg hp hok;generalize (((gG a X Y E).getD 0:Nat):Int)=o at *;generalize (gG a X Y E).isSome=t at *;replace PO:=IU PO
 cases t <;> cases z
 all_goals
  replace PA:=IU PA;go_enter func44,ntmps44
  go_wp2_with first | (go_at_call 78;with_reducible refine p_ (PC.out _ (hx.out.below B) (hns.out.keep B)) fun w4 hb4=>?_;replace ⟨B,C⟩:=Im hb4 B C;have b_:=bA w4 (.cells #[X,Y,E] 40);(have ⟨s0,s1,s2⟩:=(aG.new w4 #[X,Y,E] 40).aM);replace ⟨B,C⟩:=Im b_ B C;(have ⟨c0,c1,_,_,_⟩:=C.box)) | (go_at_call 79;with_reducible refine p_ (PO.out _) fun w5 hb5=>?_;replace B:=j_ B hb5) | (go_at_call 77;with_reducible refine p_ (PA.out _ (hns.out.keep B)) fun w6 hb6=>?_;replace B:=j_ B hb6)
  go_ret2;exact ⟨rfl,B⟩
theorem lW (a b:Int) (v nv:Value) (l:List Pt) (n:List Int) (w:World) (hx:dj w v l) (hns:bs w nv n) (hn:l.length<=4000000) :
  cB 15 #[.agg #[a,b],v,nv] w (.tuple #[M.Jw a b l n,.bool (fK a b l n).isSome]):=by
 have PI:=fun W h1 h2=>kL a b v nv l n W h1 h2 hn
 have PL:=fun W h=>oH a b v l W h hn
 obtain ⟨sa,cap,rfl⟩:=OW hx
 have PF:=fun W h=>l9 sa l.length cap nv n W h
 have e0:=fun h=>ub (a:=a) (b:=b) (l:=l) (n:=n) h
 obtain ⟨na,JI,RE,-,-⟩:=id hns;subst RE;replace hx:=IU hx;replace hns:=IU hns;obtain ⟨wc,hw3,C,B⟩:=cf w #[a,b] 25;have ⟨c0,c1,_,_,_⟩:=C.box;generalize n.length=K,l.length=L,(fK a b l n).isSome=o,M.Jw a b l n=r at *
 cases hp:bP a b l <;> cases hf:M.fits n L
 all_goals
  rw [hp,hf] at e0;rw [hp] at PL;rw [hf] at PF
  first | (obtain ⟨rfl,rfl⟩:=e0 rfl) | clear e0
  replace PL:=IU PL;replace PF:=IU PF;replace PI:=IU PI;go_enter func15,ntmps15
  go_wp2_with first | (go_at_call 34;with_reducible refine p_ (PL.out _ (hx.out.below B)) fun w4 hb4=>?_;replace ⟨B,C⟩:=Im hb4 B C;(have ⟨c0,c1,_,_,_⟩:=C.box)) | (go_at_call 43;with_reducible refine p_ (PF.out _ (hns.out.keep B)) fun w5 hb5=>?_;replace ⟨B,C⟩:=Im hb5 B C;(have ⟨c0,c1,_,_,_⟩:=C.box)) | (go_at_call 44;with_reducible refine p_ (PI.out _ (hx.out.below B) (hns.out.keep B)) fun w6 hb6=>?_;replace B:=j_ B hb6)
  go_ret2;exact ⟨rfl,B⟩
theorem kM (a b X Y E:Int) (w:World) :
  cB 20 #[.agg #[a,b],.agg #[X,Y,E]] w (.tuple #[.agg #[M.pick (eI a b X Y E) (cK a X Y E X Y E),M.pick (eI a b X Y E) (dC a X Y E X Y E),M.pick (eI a b X Y E) (cJ a X Y E X Y E)],.bool (eI a b X Y E && bB a X Y E X Y E)]):=by
 have PT:∀ W,cB 47 #[.agg #[a,b],.agg #[X,Y,E]] W (eI a b X Y E):=fun W=>jP a b X Y E W
 have Ld:=fun h=>gP (a:=a) (b:=b) (X:=X) (Y:=Y) (E:=E) h
 have PA:=fun W h=>dz a b X Y E X Y E W (Ld h).1 (Ld h).2 (Ld h).2
 clear Ld;obtain ⟨wc,hw3,C,Q,R,B⟩:=dB w #[a,b] 25 #[X,Y,E] 40 #[(0:Int),(0:Int),(0:Int)] 40;generalize bB a X Y E X Y E=o,cJ a X Y E X Y E=e,dC a X Y E X Y E=y,cK a X Y E X Y E=x at *;have ⟨c0,c1,_,_,_⟩:=C.box;have ⟨q0,q1,q2⟩:=Q.aM;have ⟨r0,r1,r2,f0,f1,f2⟩:=R.bJ;have rl:=R.lt
 cases hi:eI a b X Y E
 all_goals
  rw [hi] at PT PA;clear hi;replace PT:=IU PT;replace PA:=IU PA;go_enter func20,ntmps20
  go_wp2_with first | (go_at_call 47;with_reducible refine p_ (PT.out _) fun w4 hb4=>?_;replace ⟨B,C,Q,R⟩:=Ip hb4 B C Q R;(have ⟨c0,c1,_,_,_⟩:=C.box);(have ⟨q0,q1,q2⟩:=Q.aM);(have ⟨r0,r1,r2,f0,f1,f2⟩:=R.bJ)) | (go_at_call 50;with_reducible refine p_ (PA.out _ trivial) fun w5 hb5=>?_;replace ⟨B,R⟩:=Im hb5 B R;(have ⟨r0,r1,r2,f0,f1,f2⟩:=R.bJ))
 exact D_ results20 ⟨rfl,JW B⟩
 exact D_ results20 ⟨rfl,JW B⟩
theorem ki (a b X Y E:Int) (w:World) :
  cB 46 #[.agg #[a,b],.agg #[X,Y,E]] w (.tuple #[.agg #[M.pick (eI a b X Y E) (cK a X Y E X Y E),M.pick (eI a b X Y E) (dC a X Y E X Y E),M.pick (eI a b X Y E) (cJ a X Y E X Y E)],.bool (eI a b X Y E && bB a X Y E X Y E)]):=by
 have PT:∀ W,cB 51 #[.agg #[a,b],.agg #[X,Y,E]] W (eI a b X Y E):=fun W=>gI a b X Y E W
 have Ld:=fun h=>gP (a:=a) (b:=b) (X:=X) (Y:=Y) (E:=E) h
 have PA:=fun W h=>kV a b X Y E X Y E W (Ld h).1 (Ld h).2 (Ld h).2
 clear Ld;obtain ⟨wc,hw3,C,Q,R,B⟩:=dB w #[a,b] 25 #[X,Y,E] 40 #[(0:Int),(0:Int),(0:Int)] 40;generalize bB a X Y E X Y E=o,cJ a X Y E X Y E=e,dC a X Y E X Y E=y,cK a X Y E X Y E=x at *;have ⟨c0,c1,_,_,_⟩:=C.box;have ⟨q0,q1,q2⟩:=Q.aM;have ⟨r0,r1,r2,f0,f1,f2⟩:=R.bJ;have rl:=R.lt
 cases hi:eI a b X Y E
 all_goals
  rw [hi] at PT PA;clear hi;replace PT:=IU PT;replace PA:=IU PA;go_enter func46,ntmps46
  go_wp2_with first | (go_at_call 51;with_reducible refine p_ (PT.out _) fun w4 hb4=>?_;replace ⟨B,C,Q,R⟩:=Ip hb4 B C Q R;(have ⟨c0,c1,_,_,_⟩:=C.box);(have ⟨q0,q1,q2⟩:=Q.aM);(have ⟨r0,r1,r2,f0,f1,f2⟩:=R.bJ)) | (go_at_call 55;with_reducible refine p_ (PA.out _ trivial) fun w5 hb5=>?_;replace ⟨B,R⟩:=Im hb5 B R;(have ⟨r0,r1,r2,f0,f1,f2⟩:=R.bJ))
 exact D_ results46 ⟨rfl,JW B⟩
 exact D_ results46 ⟨rfl,JW B⟩
namespace M
def dg (m:Int):Nat->Int->List Int
 | 0,_=>[]
 | k+1,x=>dg m k (x / (2*m+1)) ++ [x % (2*m+1) - m]
theorem nZ (m:Int):∀ k x,(dg m k x).length=k
 | 0,_=>rfl
 | k+1,x=>by unfold dg;rw [List.length_append,nZ m k];rfl
theorem AY {m:Int} (hm:1<=m):∀ k x,∀ y ∈ dg m k x,-m<=y/\y<=m
 | 0,_,y,h=>by cases h
 | k+1,x,y,h=>by
  unfold dg at h
  rcases List.mem_append.1 h with h | h
  ·exact AY hm k _ y h
  obtain rfl:=List.mem_singleton.1 h;have:=Int.emod_nonneg x (show 2*m+1≠0 by omega);have:=Int.emod_lt_of_pos x (show 0<2*m+1 by omega);omega
noncomputable def Kr (a b:Int) (l:List Pt) (m:Int):Nat->Nat->Option (List Int)
 | 0,_=>none
 | f+1,x=>if Jw a b l (dg m l.length x)=true then some (dg m l.length x) else Kr a b l m f (x+1)
noncomputable def MP (a b:Int) (l:List Pt) (m:Int):Option (List Int):=if (bP a b l && (decide (l.length<=3) && ins m 1 3))=true then Kr a b l m (dc (2*m+1) l.length).toNat 0 else none
theorem wN {m:Int} (h1:1<=m) (h2:m<=3) (k:Nat) (x:Int):fits (dg m k x) k=true:=by
 unfold fits;rw [nZ];simp only [decide_true,Bool.true_and,beq_self_eq_true]
 exact List.all_eq_true.2 fun y hy=>bT.2 (by have:=AY h1 k x y hy;omega)
theorem II {a b m:Int} {l:List Pt} (hp:bP a b l=true) (h1:1<=m) (h2:m<=3) (x:Int):Jw a b l (dg m l.length x)=((cW a b l (dg m l.length x) l.length).isSome && (nz (dg m l.length x) && dD a (pX (cW a b l (dg m l.length x) l.length),pY (cW a b l (dg m l.length x) l.length),pE (cW a b l (dg m l.length x) l.length)))):=by
 unfold Jw;rw [qZ hp (wN h1 h2 l.length x)]
 cases cW a b l (dg m l.length x) l.length <;> rfl
theorem DE {a b:Int} (l:List Pt) (n:List Int) (hg:good a b=true) (j:Nat):aP a b (pX (cW a b l n j)) (pY (cW a b l n j)) (pE (cW a b l n j))=true:=by
 cases h:cW a b l n j with
 | none=>exact fY a b
 | some s=>exact jM hg j s h
end M
end
section
open Go.RowKit Go.Shelf open Gr M Rg Rw Wh
namespace M
noncomputable def mL (a b e x:Int):List Ib:=if (gcd x e == 1 && fU (cv a b x e))=true then [(x,rt (cv a b x e),e)] else []
noncomputable def Ke (a b e:Int):Nat->Int->List Ib
 | 0,_=>[]
 | f+1,x=>mL a b e x ++ Ke a b e f (x+1)
theorem th {a b e m x:Int} (h:x<=m):Ke a b e (m+1 - x).toNat x=mL a b e x ++ Ke a b e (m+1 - (x+1)).toNat (x+1):=by
 rw [show (m+1 - x).toNat=(m+1 - (x+1)).toNat+1 by omega];rfl
theorem CF (a b e x:Int):(mL a b e x).length<=1:=by unfold mL;split <;> simp
end M
theorem pM (a b e m:Int) (w:World) (hg:M.good a b=true) (he1:1<=e) (he2:e<=20) (hm0:0<=m) (hm:m<=1000) :
  Calls prog 48 #[.agg #[a,b],e,m] w fun r w'=>∃ v',r=.returned v'/\Rw.Own Ka w' w v' (M.Ke a b e (m+1 - -m).toNat (-m))/\Below w w w':=by
 obtain ⟨ha1,ha2,hb1,hb2⟩:=aW (aY hg)
 have PV:=IU fun x W h1 h2=>fS a b x e W ha1 ha2 hb1 hb2 h1 h2 ω he2
 have HB:=IU fun x h1 h2=>nX (a:=a) (b:=b) (x:=x) (e:=e) ha1 ha2 hb1 hb2 h1 h2 ω he2
 have PG:=IU fun x W (h1:-1000<=x) (h2:x<=1000)=>s9 x e W ω ω ω ω
 have hnx:=IU fun x h=>th (a:=a) (b:=b) (e:=e) (m:=m) (x:=x) h
 have hat:=IU fun x=>show mL a b e x=if (M.gcd x e == 1 && fU (M.cv a b x e))=true then [(x,M.rt (M.cv a b x e),e)] else [] from rfl
 obtain ⟨T,hT⟩:∃ T,M.Ke a b e (m+1 - -m).toNat (-m)=T:=⟨_,rfl⟩
 rw [hT];replace hT:=IU hT;clear hg ha1 ha2 hb1 hb2;obtain ⟨wc,hw3,C,B⟩:=cf w #[a,b] 25;go_enter func48,ntmps48
 go_wp2
 go_loopw [7,8] (fun vs vi wq=>∃ (x:Int) (xs:List M.Ib),-m<=x/\x<=m+1/\vi=.int .i64 x/\(xs.length:Int)<=x+m/\Hid (xs ++ M.Ke a b e (m+1 - x).toNat x=T)/\Hid (Rw.Own Ka wq wc vs xs)/\Below wc wc wq) (fun _ vi _=>(m+1 - intOf vi).toNat)
 case atStart=>exact ⟨-m,[],ω,ω,rfl,by simp;omega,hT,IU (Rw.Own.nil Ka _ _),IX _ _⟩
 case round=>
 obtain ⟨x,xs,hx1,hx2,rfl,hlx,hs,hown,hbr⟩:=hrel;obtain ⟨A,cap,rfl,-,-,-⟩:=hown.out.seen;have Kp:=hbr.size;have C2:=C.keep hbr;have ⟨k0,k1,_,_,_⟩:=C2.box
 by_cases hlt:x<=m
 ·replace hs:=(congrArg (xs ++ ·) (hnx.out x hlt)).symm.trans hs.out
  rw [←List.append_assoc,hat.out x] at hs;replace PV:=PV.out x;replace HB:=HB.out x ω ω;replace PG:=PG.out x;generalize M.cv a b x e=c at *
  have PX:=fun W=>iJ c W ω
  generalize fU c=s,M.rt c=r,M.gcd x e=g at *;replace PV:=IU PV;replace PG:=IU PG
  obtain ⟨N,hN⟩:∃ N,N=xs.length:=⟨_,rfl⟩
  rw [←hN] at hown hlx ⊢
  by_cases hg1:g=1
  ·subst hg1
   cases s with
   | false=>
    subst hN;rw [if_neg δ,List.append_nil] at hs;replace PX:=IU PX;replace hs:=IU hs
    go_wp2_with first | (go_at_call 83;(with_reducible refine (PG.out _ ω ω).mono ?_);rintro e3 w3 ⟨rfl,m3,rfl⟩) | (go_at_call 84;with_reducible refine p_ (PV.out _ ω ω) fun w4 hb4=>?_) | (go_at_call 85;with_reducible refine Id (PX.out _) ?_)
    go_roundw
    case rel=>exact ⟨x+1,xs,ω,ω,ν,ω,hs,IU (hown.out.below (bE (aN (IX _ _) m3) hb4)),hbr.trans ((bE (aN (IX _ _) m3) hb4).mono Kp)⟩
    case measure=>simp [intOf];omega
   | true=>
   rw [if_pos δ] at hs;replace PX:=IU PX;replace hs:=IU hs;have hNN:=IU hN;clear hN
   go_wp2_with first | (go_at_call 83;(with_reducible refine (PG.out _ ω ω).mono ?_);rintro e3 w3 ⟨rfl,m3,rfl⟩) | (go_at_call 84;with_reducible refine p_ (PV.out _ ω ω) fun w4 hb4=>?_;have hb5:=bE (aN (IX _ _) m3) hb4;have Ji:=hb5.size) | (go_at_call 85;with_reducible refine Id (PX.out _) ?_) | (at_builtin;refine Rw.push iK (W:=wc) wc.heap.size [(x,r,e)] _ _ (some ⟨_,0,none⟩) 1 1 (by rfl) (by rfl) (.tmp 31) (.tmp 36) (by rfl) (by rfl) (by rfl) (gJ x r e σ) ((hown.out.below hb5).alloc _) ((hbr.trans (hb5.mono Kp)).alloc ω _) (by simp;omega) (by have:=hNN.out;simp;omega) ?_;intro v6 w6 hown6 hb6)
   go_roundw
   case rel=>exact ⟨x+1,xs ++ [(x,r,e)],ω,ω,ν,by rw [List.length_append,List.length_singleton];have:=hNN.out;omega,hs,IU hown6,hb6⟩
   case measure=>simp [intOf];omega
  have hgb:(g == 1)=false:=by rw [beq_eq_false_iff_ne];exact hg1
  subst hN;rw [hgb,if_neg σ,List.append_nil] at hs;replace hs:=IU hs;clear PX
  go_wp2_with first | (go_at_call 83;(with_reducible refine (PG.out _ ω ω).mono ?_);rintro e3 w3 ⟨rfl,m3,rfl⟩)
  go_roundw
  case rel=>exact ⟨x+1,xs,ω,ω,ν,ω,hs,IU (hown.out.below (aN (IX _ _) m3)),ez hbr m3⟩
  case measure=>simp [intOf];omega
 obtain rfl:x=m+1:=ω
 rw [show (m+1 - (m+1)).toNat=0 by omega] at hs;obtain rfl:xs=T:=(List.append_nil xs).symm.trans hs.out;go_wp2;go_ret;exact ⟨_,rfl,hown.out.down B.size,j_ B hbr⟩
end
section
open Gr M Rg Rw Wh
namespace M
noncomputable def hf (a:Int) (p q:Ib):Bool:=bB a q.1 q.2.1 q.2.2 q.1 q.2.1 q.2.2 && (cK a q.1 q.2.1 q.2.2 q.1 q.2.1 q.2.2 == p.1 && (dC a q.1 q.2.1 q.2.2 q.1 q.2.1 q.2.2 == p.2.1 && cJ a q.1 q.2.1 q.2.2 q.1 q.2.1 q.2.2 == p.2.2))
noncomputable def KE (a:Int) (p q:Ib):List Ib:=(if q.2.1=0 then [q] else [(q.1,-q.2.1,q.2.2),q]).filter (hf a p)
noncomputable def Kd (a b m:Int) (p:Ib):Nat->Int->List Ib
 | 0,_=>[]
 | f+1,e=>(Ke a b e (m+1 - -m).toNat (-m)).flatMap (KE a p) ++ Kd a b m p f (e+1)
noncomputable def MR (a b m:Int) (p:Ib):Option (List Ib):=if (eI a b p.1 p.2.1 p.2.2 && ins m 0 1000)=true then some (Kd a b m p 20 1 ++ (if p.2.2=0 then [(0,0,0)] else [])) else none
theorem tF {a b m e:Int} {p:Ib} (h:e<=20):Kd a b m p (20+1 - e).toNat e=(Ke a b e (m+1 - -m).toNat (-m)).flatMap (KE a p) ++ Kd a b m p (20+1 - (e+1)).toNat (e+1):=by
 rw [show (20+1 - e).toNat=(20+1 - (e+1)).toNat+1 by omega];rfl
theorem kQ {a:Int} {p q r:Ib} (h:r ∈ KE a p q):r.1=q.1/\r.2.2=q.2.2/\(r.2.1=q.2.1∨r.2.1=-q.2.1)/\hf a p r=true:=by
 obtain ⟨h1,h2⟩:=List.mem_filter.1 h
 split at h1
 ·obtain rfl:=List.mem_singleton.1 h1
  exact ⟨rfl,rfl,.inl rfl,h2⟩
 simp only [List.mem_cons,List.not_mem_nil,or_false] at h1
 rcases h1 with rfl | rfl
 ·exact ⟨rfl,rfl,.inr rfl,h2⟩
 exact ⟨rfl,rfl,.inl rfl,h2⟩
theorem yH (a:Int) (p q:Ib):(KE a p q).Nodup:=by
 unfold KE;refine List.Nodup.sublist List.filter_sublist ?_
 split
 ·simp
 rename_i h
 have:(q.1,-q.2.1,q.2.2)≠q:=fun e=>by
  have:=congrArg (fun r=>r.2.1) e
  dsimp only at this
  omega
 simp [this]
theorem oV {a b e x:Int} {q:Ib} (h:q ∈ mL a b e x):q=(x,rt (cv a b x e),e)/\gcd x e=1/\fU (cv a b x e)=true:=by
 unfold mL at h
 split at h
 ·rename_i hc
  rw [Bool.and_eq_true,beq_iff_eq] at hc;exact ⟨List.mem_singleton.1 h,hc⟩
 cases h
theorem kR {a b e:Int}:∀ f x (q:Ib),q ∈ Ke a b e f x->x<=q.1/\q.1<x+f/\q.2.2=e/\q ∈ mL a b e q.1
 | 0,x,q,h=>by cases h
 | f+1,x,q,h=>by
  unfold Ke at h
  rcases List.mem_append.1 h with h | h
  ·have e1:=(oV h).1
   rw [e1] at h ⊢;exact ⟨Int.le_refl _,by dsimp only;omega,rfl,h⟩
  have:=kR f (x+1) q h;exact ⟨ω,ω,this.2.2⟩
theorem nj {a b e:Int} {p:Ib}:∀ f x,((Ke a b e f x).flatMap (KE a p)).Nodup
 | 0,x=>List.nodup_nil
 | f+1,x=>by
  unfold Ke;rw [List.flatMap_append,List.nodup_append];refine ⟨?_,nj f (x+1),fun r h1 s h2 hrs=>?_⟩
  ·unfold mL
   split
   ·rw [List.flatMap_singleton];exact yH _ _ _
   exact List.nodup_nil
  obtain ⟨q,hq,h1⟩:=List.mem_flatMap.1 h1;obtain ⟨t,ht,h2⟩:=List.mem_flatMap.1 h2;have e1:=(kQ h1).1;have e2:=(kQ h2).1;have e3:=(kR _ _ _ ht).1;rw [(oV hq).1] at e1;rw [hrs] at e1
  dsimp only at e1
  omega
theorem mW {a b m:Int} {p:Ib}:∀ f e r,r ∈ Kd a b m p f e->e<=r.2.2/\r.2.2<e+f/\hf a p r=true/\∃ q,q ∈ mL a b r.2.2 q.1/\-m<=q.1/\q.1<=m/\r ∈ KE a p q
 | 0,e,r,h=>by cases h
 | f+1,e,r,h=>by
  unfold Kd at h
  rcases List.mem_append.1 h with h | h
  ·obtain ⟨q,hq,h⟩:=List.mem_flatMap.1 h
   obtain ⟨-,h2,-,h3⟩:=kQ h;obtain ⟨k1,k2,k3,k4⟩:=kR _ _ _ hq;rw [←h2] at k3;rw [k3];exact ⟨Int.le_refl _,ω,h3,q,k4,k1,ω,h⟩
  have:=mW f (e+1) r h;exact ⟨ω,ω,this.2.2⟩
theorem lI {a b m:Int} {p:Ib}:∀ f e,(Kd a b m p f e).Nodup
 | 0,e=>List.nodup_nil
 | f+1,e=>by
  unfold Kd;rw [List.nodup_append];refine ⟨nj _ _,lI f (e+1),fun r h1 s h2 hrs=>?_⟩;obtain ⟨q,hq,h1⟩:=List.mem_flatMap.1 h1;have e1:=(kQ h1).2.1;have e2:=(kR _ _ _ hq).2.2.1;have e3:=(mW _ _ _ h2).1;rw [hrs] at e1;omega
noncomputable def hst (a:Int) (p:Ib) (out:List Ib) (y:Int) (r:Ib):List Ib:=if y=0/\out.getLast?=some r then out else if hf a p r=true then out ++ [r] else out
theorem DY {a:Int} {p q:Ib} {O:List Ib} (h:(O ++ KE a p q).Nodup):hst a p (hst a p O q.2.1 (q.1,-q.2.1,q.2.2)) q.2.1 q=O ++ KE a p q:=by
 obtain ⟨x,y,e⟩:=q
 by_cases hy:y=0
 ·subst hy
  have e1:KE a p (x,0,e)=if hf a p (x,0,e)=true then [(x,0,e)] else []:=by unfold KE;simp [List.filter_cons]
  rw [e1] at h ⊢
  dsimp only
  rw [show -(0:Int)=0 by rfl];generalize ((x,0,e):Ib)=q at *;unfold hst
  cases hq:hf a p q with
  | true=>
   rw [hq,if_pos rfl,List.nodup_append] at h
   have hn:¬ ((0:Int)=0/\O.getLast?=some q):=fun k=>h.2.2 q (List.mem_of_getLast? k.2) q σ rfl
   rw [if_neg hn];simp
  | false=>simp
 unfold hst KE;simp only [hy,false_and,if_false,List.filter_cons,List.filter_nil]
 cases hf a p (x,-y,e) <;> cases hf a p (x,y,e) <;> simp
theorem EE {a b e x:Int} {p:Ib}:(mL a b e x).flatMap (KE a p)=if gcd x e=1 then (Mq a b e x).filter (hf a p) else []:=by
 unfold mL Mq
 by_cases hg:gcd x e=1
 ·rw [if_pos hg,hg]
  cases fU (cv a b x e) with
  | false=>rfl
  | true=>
  simp only [beq_self_eq_true,Bool.and_self,if_true,List.flatMap_singleton];unfold KE
  dsimp only
  split
  ·rename_i h;rw [h]
  rfl
 rw [if_neg hg,beq_eq_false_iff_ne.2 hg];rfl
end M
end
section
open Go.RowKit Go.Shelf open Gr M Rg Rw Wh
structure HS (w0:World) (A:List (Option Addr)) (vs:Value) (out:List M.Ib) (W:World):Prop where
 B:Below w0 w0 W
 o:Rw.Own Ka W w0 vs out
 f:∀ a ∈ A,∀ k,a=some ⟨k,0,none⟩->k<W.heap.size/\vs.ownBlock≠some k
namespace HS
variable {w0 W W':World} {A:List (Option Addr)} {a:Option Addr} {vs v':Value} {out ys:List M.Ib}
theorem start (w0:World):HS w0 [] (.slice none 0 0) [] w0:=⟨IX _ _,Rw.Own.nil Ka _ _,fun _ h=>by cases h⟩
theorem below (h:HS w0 A vs out W) (hb:Below W W W'):HS w0 A vs out W':=
 ⟨h.B.trans (hb.mono h.B.size),h.o.below hb,fun a ha k e=>⟨Nat.lt_of_lt_of_le (h.f a ha k e).1 hb.size,(h.f a ha k e).2⟩⟩
theorem add (h:HS w0 A vs out W) (hb:Below W W W') (ha:∀ k,a=some ⟨k,0,none⟩->W.heap.size<=k/\k<W'.heap.size):HS w0 (a :: A) vs out W':=
 ⟨(h.below hb).B,(h.below hb).o,fun b hb2 k e=>by
  rcases List.mem_cons.1 hb2 with rfl | hm
  ·exact ⟨(ha k e).2,fun q=>by have:=(h.o.lt k q).2;have:=(ha k e).1;omega⟩
  exact (h.below hb).f b hm k e⟩
theorem nil (h:HS w0 A vs out W):HS w0 [] vs out W:=⟨h.B,h.o,fun _ h=>by cases h⟩
theorem push (h:HS w0 A vs out W) (ho:Rw.Own Ka W' w0 v' (out ++ ys)) (hg:W.grownBy W' vs.ownBlock) (hb:v'.ownBlock=vs.ownBlock∨v'.ownBlock=some W.heap.size):HS w0 A v' (out ++ ys) W':=
 ⟨h.B.grown hg h.B.size (fun k hk=>(h.o.lt k hk).1),ho,fun a ha k e=>by
  obtain ⟨h1,h2⟩:=h.f a ha k e;refine ⟨Nat.lt_of_lt_of_le h1 hg.size,fun q=>?_⟩
  rcases hb with hb | hb
  ·exact h2 (hb ▸ q)
  rw [hb] at q;injection q with q;omega⟩
theorem var {g:Nat} {T:TypeId} {xs:Array Value} (h:HS w0 A vs out W) (hg:W.grownBy W' vs.ownBlock) (V:aG W g T xs) (ha:some ⟨g,0,none⟩ ∈ A):aG W' g T xs:=V.mC hg fun k hk e=>(h.f _ ha k (by rw [e])).2 hk
theorem pts {n c:Nat} {l:List Pt} (h:HS w0 A vs out W) (hg:W.grownBy W' vs.ownBlock) (V:eD W (.slice a n c) l) (ha:a ∈ A):eD W' (.slice a n c) l:=V.mC hg fun k hk e=>(h.f _ ha k e).2 hk
end HS
theorem Lp.z {w:World} {base cp:Nat} {A:Option Addr} {l:List M.Ib} (h:Lp w base A l):eD w (.slice A l.length cp) l/\∀ k,l≠[]->A=some ⟨k,0,none⟩->base<=k/\k<w.heap.size:=by
 cases l with
 | nil=>exact ⟨⟨A,cp,rfl,.inl rfl⟩,fun _ h=>absurd rfl h⟩
 | cons p l=>
 obtain ⟨g,rfl,hb,hc,-⟩:=h 0 p rfl;refine ⟨⟨_,cp,rfl,.inr ⟨g,rfl,fun k q hq=>?_⟩⟩,fun k _ e=>?_⟩
 ·obtain ⟨g2,e2,-,h2⟩:=h k q hq
  injection e2 with e2
  injection e2 with e2
  subst e2;exact h2
 injection e with e
 injection e with e
 subst e;exact ⟨hb,World.block_lt_of_cell? w _ hc⟩
namespace M
theorem rT (a b e:Int):∀ f x,(Ke a b e f x).length<=f
 | 0,_=>IY _
 | f+1,x=>by
  unfold Ke;rw [List.length_append];have:=CF a b e x;have:=rT a b e f (x+1);omega
theorem DZ (a:Int) (p q:Ib):(KE a p q).length<=2:=by
 unfold KE;refine Nat.le_trans (List.length_filter_le _ _) ?_
 split <;> simp
theorem cX (a:Int) (p:Ib):∀ l:List Ib,(l.flatMap (KE a p)).length<=2*l.length
 | []=>IY _
 | q :: l=>by
  rw [List.flatMap_cons,List.length_append,List.length_cons];have:=DZ a p q;have:=cX a p l;omega
theorem qz {a b m:Int} {p:Ib} (hm:m<=1000):∀ f e,(Kd a b m p f e).length<=f*4002
 | 0,_=>IY _
 | f+1,e=>by
  unfold Kd;rw [List.length_append];have:=cX a p (Ke a b e (m+1 - -m).toNat (-m));have:=rT a b e (m+1 - -m).toNat (-m);have:=qz (a:=a) (b:=b) (p:=p) hm f (e+1);omega
theorem HV {a b e x:Int} {q:Ib} (he1:1<=e) (he2:e<=20) (hx1:-10000<=x) (hx2:x<=10000) (hg:gcd x e=1) (h:q ∈ Mq a b e x):aP a b q.1 q.2.1 q.2.2=true:=by
 have ok:∀ y,y*y=cv a b x e->aP a b x y e=true:=fun y hy=>by
  unfold aP;rw [if_neg ω];simp only [Bool.and_eq_true,beq_iff_eq,decide_eq_true_eq];exact ⟨⟨⟨bT.2 ⟨hx1,hx2⟩,bT.2 ⟨he1,he2⟩⟩,hg⟩,hy⟩
 unfold Mq at h
 split at h
 ·rename_i hs
  obtain ⟨-,hr⟩:=tv hs
  split at h
  ·rename_i h0
   obtain rfl:=List.mem_singleton.1 h;exact ok 0 (by rw [←hr,h0])
  simp only [List.mem_cons,List.not_mem_nil,or_false] at h
  rcases h with rfl | rfl
  ·exact ok _ (by rw [Int.neg_mul_neg];exact hr)
  exact ok _ hr
 cases h
theorem FG {a b e m x:Int} {q:Ib} {f:Nat} (he1:1<=e) (he2:e<=20) (hm2:m<=1000) (h:q ∈ Ke a b e f x) (hx1:-m<=x:=by omega) (hx2:x+f<=m+1:=by omega):aP a b q.1 q.2.1 q.2.2=true/\aP a b q.1 (-q.2.1) q.2.2=true:=by
 obtain ⟨h1,h2,h3,h4⟩:=kR _ _ _ h;rw [h3.symm] at he1 he2;rw [←h3] at h4;obtain ⟨h5,h6,h7⟩:=oV h4;obtain ⟨-,hr⟩:=tv h7;have hq:q.2.1=rt (cv a b q.1 q.2.2):=congrArg (fun r=>r.2.1) h5
 have ok:∀ y,y*y=cv a b q.1 q.2.2->aP a b q.1 y q.2.2=true:=fun y hy=>by
  unfold aP;rw [if_neg ω];simp only [Bool.and_eq_true,beq_iff_eq,decide_eq_true_eq];exact ⟨⟨⟨bT.2 ⟨ω,ω⟩,bT.2 ⟨he1,he2⟩⟩,h6⟩,hy⟩
 rw [←hq] at hr;exact ⟨ok _ hr,ok _ (by rw [Int.neg_mul_neg];exact hr)⟩
theorem Fr (a b e x:Int):(Mq a b e x).length<=2:=by unfold Mq;split <;> (try split) <;> simp
end M
end
section
open Gr M Rg Rw Wh
namespace M
open r_
def NP (p:Ib):Ib:=(p.1,-p.2.1,p.2.2)
theorem uU {a b X1 Y1 E1 X2 Y2 E2:Int} (hg:good a b=true) (h1:aP a b X1 Y1 E1=true) (h2:aP a b X2 Y2 E2=true) (h:bB a X1 Y1 E1 X2 Y2 E2=true) :
  bB a X1 (-Y1) E1 X2 (-Y2) E2=true/\cK a X1 (-Y1) E1 X2 (-Y2) E2=cK a X1 Y1 E1 X2 Y2 E2/\dC a X1 (-Y1) E1 X2 (-Y2) E2=-dC a X1 Y1 E1 X2 Y2 E2/\cJ a X1 (-Y1) E1 X2 (-Y2) E2=cJ a X1 Y1 E1 X2 Y2 E2:=
 Fh hg (dp h1) (dp h2) (dp (ie (aY hg) h1 h2)) (by
  rw [kW,kW,kW,jJ hg h1 h2 h,kS (dA (dk hg)) (dt h1) (dt h2)])
theorem C4 {a b X1 Y1 E1 X2 Y2 E2:Int} (hg:good a b=true) (h1:aP a b X1 Y1 E1=true) (h2:aP a b X2 Y2 E2=true):bB a X1 (-Y1) E1 X2 (-Y2) E2=bB a X1 Y1 E1 X2 Y2 E2:=by
 cases h:bB a X1 Y1 E1 X2 Y2 E2 with
 | true=>exact (uU hg h1 h2 h).1
 | false=>
 cases h':bB a X1 (-Y1) E1 X2 (-Y2) E2 with
 | false=>rfl
 | true=>
 have:=(uU hg (dp h1) (dp h2) h').1;rw [Int.neg_neg,Int.neg_neg,h] at this;cases this
noncomputable def UN (a:Int) (p q:Ib):Option Ib:=if bB a p.1 p.2.1 p.2.2 q.1 q.2.1 q.2.2=true then some (cK a p.1 p.2.1 p.2.2 q.1 q.2.1 q.2.2,dC a p.1 p.2.1 p.2.2 q.1 q.2.1 q.2.2,cJ a p.1 p.2.1 p.2.2 q.1 q.2.1 q.2.2) else none
theorem zU {a b:Int} {p q:Ib} (hg:good a b=true) (h1:aP a b p.1 p.2.1 p.2.2=true) (h2:aP a b q.1 q.2.1 q.2.2=true):UN a (NP p) (NP q)=(UN a p q).map NP:=by
 unfold UN NP
 dsimp only
 rw [C4 hg h1 h2]
 cases h:bB a p.1 p.2.1 p.2.2 q.1 q.2.1 q.2.2 with
 | false=>rfl
 | true=>
 obtain ⟨-,e1,e2,e3⟩:=uU hg h1 h2 h;rw [e1,e2,e3];rfl
theorem ro {a b X Y E:Int} (hg:good a b=true) (hp:aP a b X Y E=true):∀ n,JT a X (-Y) E n=(JT a X Y E n).map NP
 | 0=>rfl
 | n+1=>by
  have ih:=ro hg hp n
  cases h:JT a X Y E n with
  | none=>
   rw [h] at ih;rw [gE h _ (Nat.le_succ n),gE ih _ (Nat.le_succ n)];rfl
  | some q=>
  rw [h] at ih;rw [fI h,fI ih];exact zU (q:=(X,Y,E)) hg (gS hg hp n q h) hp
theorem Ee {a b X Y E n:Int} (hg:good a b=true) (hp:aP a b X Y E=true):gD a X Y E (-n)=(gD a X Y E n).map NP:=by
 unfold gD Mg;rw [Int.natAbs_neg]
 rcases Int.lt_trichotomy n 0 with h | h | h
 ·rw [if_neg ω,if_pos h,←ro hg (dp hp),Int.neg_neg]
 ·subst h
  rfl
 rw [if_pos ω,if_neg ω,ro hg hp]
theorem GN {a b X Y E n:Int}:J1 a b X Y E (-n)=(J1 a b X Y E n).map NP:=by
 unfold J1;have e:ins (-n) (-12) 12=ins n (-12) 12:=Bool.eq_iff_iff.2 (by rw [bT,bT];omega);rw [e]
 split
 ·rename_i h
  rw [Bool.and_eq_true] at h;obtain ⟨hg,hp⟩:=gP h.1;exact Ee hg hp
 rfl
theorem wD {a b:Int} {l:List Pt} {n:List Int} (hg:good a b=true):∀ j,cW a b l (n.map fun x=>-x) j=(cW a b l n j).map NP
 | 0=>rfl
 | j+1=>by
  unfold cW DF;rw [wD hg j,List.getElem?_map]
  cases hs:cW a b l n j with
  | none=>rfl
  | some s=>
  cases l[j]? with
  | none=>rfl
  | some p=>
  cases n[j]? with
  | none=>rfl
  | some k=>
  show (J1 a b p.1 p.2.1 p.2.2 (-k)).bind _=((J1 a b p.1 p.2.1 p.2.2 k).bind _).map _
  rw [GN]
  cases hq:J1 a b p.1 p.2.1 p.2.2 k with
  | none=>rfl
  | some q=>exact zU hg (mP hg j s hs).1 (vC hq)
theorem xC {a b X Y E:Int} (hg:good a b=true) (hp:aP a b X Y E=true):∀ f n,kT a X (-Y) E f n=kT a X Y E f n
 | 0,_=>rfl
 | f+1,n=>by
  have h0:=ro hg hp n
  cases h:JT a X Y E n with
  | none=>
   rw [h] at h0;rw [gl h,gl h0]
  | some p=>
  rw [h] at h0;rw [fX h,fX h0,xC hg hp f (n+1)];rfl
theorem IJ {a b:Int} {l:List Pt} {n:List Int} (h:Jw a b l n=true):Jw a b l (n.map fun x=>-x)=true:=by
 unfold Jw fK at *
 have e1:fits (n.map fun x=>-x) l.length=fits n l.length:=by
  unfold fits;rw [List.length_map,List.all_map]
  congr 2
  funext x
  exact Bool.eq_iff_iff.2 (by show ins (-x) _ _=true ↔ _;rw [bT,bT];omega)
 have e2:nz (n.map fun x=>-x)=nz n:=by
  unfold nz;rw [List.any_map]
  congr 1
  funext x
  show (!(-x == 0))=!(x == 0)
  congr 1
  exact Bool.eq_iff_iff.2 (by rw [beq_iff_eq,beq_iff_eq];omega)
 rw [e1,e2]
 split at h
 ·rename_i hc
  rw [if_pos hc];rw [Bool.and_eq_true] at hc;obtain ⟨hg,-⟩:=jU hc.1;rw [wD hg]
  cases hs:cW a b l n l.length with
  | none=>rw [hs] at h;cases h
  | some s=>
  rw [hs] at h
  show (nz n && dD a (NP s))=true
  have:dD a (NP s)=dD a s:=by
   unfold dD gG NP;rw [xC hg (mP hg _ s hs).1]
  rw [this];exact h
 cases h
theorem Gj {a b:Int} {l:List Pt} {n:List Int} (h:Jw a b l n=true):q7 a b l=false:=by
 cases hi:q7 a b l with
 | false=>rfl
 | true=>
 unfold q7 at hi;rw [Bool.and_eq_true,decide_eq_true_eq] at hi
 cases hp:bP a b l with
 | false=>rw [mc hp] at hi;cases hi.1
 | true=>
 rw [kY hp] at hi
 cases e:gR a b l with
 | none=>rw [e] at hi;cases hi.1
 | some p=>
 rw [e] at hi;have h1:=Gk e h;have h2:p.1 > 0:=hi.2;omega
theorem Ay {a b m:Int} {l:List Pt} (hm:1<=m):∀ f x r,Kr a b l m f x=some r->Jw a b l r=true/\r.length=l.length/\∀ y ∈ r,-m<=y/\y<=m
 | 0,x,r,h=>by cases h
 | f+1,x,r,h=>by
  unfold Kr at h
  split at h
  ·rename_i hr
   cases h
   exact ⟨hr,nZ _ _ _,AY hm _ _⟩
  exact Ay hm f _ r h
theorem F7 {a b m:Int} {l:List Pt} {r:List Int} (h:MP a b l m=some r):Jw a b l r=true/\r.length=l.length/\(∀ y ∈ r,-m<=y/\y<=m)/\m<=3/\l.length<=3/\Jw a b l (r.map fun x=>-x)=true/\q7 a b l=false:=by
 unfold MP at h
 split at h
 ·rename_i hc
  rw [Bool.and_eq_true,Bool.and_eq_true,decide_eq_true_eq] at hc;obtain ⟨h1,h2⟩:=bT.1 hc.2.2;obtain ⟨k1,k2,k3⟩:=Ay h1 _ _ _ h;exact ⟨k1,k2,k3,h2,hc.2.1,IJ k1,Gj k1⟩
 cases h
theorem A7 {a b:Rat} (hd:4*a*a*a+27*b*b≠0) {P Q R:r_} (hP:On a b P) (hQ:On a b Q) (h1:add a P P=R) (h2:add a Q Q=R) (hn:P≠Q):∃ x:Rat,add a P (neg Q)=.fin x 0/\x*x*x+a*x+b=0:=by
 have hQn:=cM hQ;have hon:=dM hd hP hQn
 have h0:add a (add a P (neg Q)) (add a P (neg Q))=.O:=by
  rw [C7 hd hP hQn hP hQn,h1,←kS hd hQ hQ,h2,add_comm hd (h2 ▸ dM hd hQ hQ) (cM (h2 ▸ dM hd hQ hQ)),cL]
 have hbk:add a (add a P (neg Q)) Q=P:=by
  rw [add_assoc hd hP hQn hQ,cL,ij]
 have hc:=qU hd hon hon;rw [h0,ij] at hc
 cases e:add a P (neg Q) with
 | O=>
  rw [e] at hbk;exact absurd hbk.symm hn
 | fin x y=>
 rw [e] at hc hon
 have hy:-y=y:=by
  unfold neg at hc;injection hc
 have hy0:y=0:=φ
 subst hy0;refine ⟨x,rfl,?_⟩;unfold On at hon;rw [←hon,Rat.mul_zero]
theorem DJ {a b:Rat} (hd:4*a*a*a+27*b*b≠0) {P P' Q:r_} (hP:On a b P) (hP':On a b P') (hQ:On a b Q) (h:add a P (neg Q)=add a P' (neg Q)):P=P':=by
 have k:=fun {S:r_} (hS:On a b S)=>show add a (add a S (neg Q)) Q=S by rw [add_assoc hd hS (cM hQ) hQ,cL,ij]
 rw [←k hP,←k hP',h]
theorem uf {a b x y z t:Rat} (h1:x*x*x+a*x+b=0) (h2:y*y*y+a*y+b=0) (h3:z*z*z+a*z+b=0) (h4:t*t*t+a*t+b=0) (n1:x≠y) (n2:x≠z) (n3:y≠z) (n4:x≠t) (n5:y≠t) (n6:z≠t):False:=by
 have e:∀ {z:Rat},z*z*z+a*z+b=0->x≠z->y≠z->x+y+z=0:=fun {z} h3 n2 n3=>by
  have k1:(x - y)*(x*x+x*y+y*y+a)=0:=φ
  have k2:(x - z)*(x*x+x*z+z*z+a)=0:=φ
  have l1:x*x+x*y+y*y+a=0:=(Rat.mul_eq_zero.1 k1).resolve_left φ;have l2:x*x+x*z+z*z+a=0:=(Rat.mul_eq_zero.1 k2).resolve_left φ
  have k3:(y - z)*(x+y+z)=0:=φ
  exact (Rat.mul_eq_zero.1 k3).resolve_left φ
 have:=e h3 n2 n3;have:=e h4 n4 n5
 grind
theorem tC {a b:Rat} (hd:4*a*a*a+27*b*b≠0) {R:r_} {l:List r_} (hl:l.Nodup) (h:∀ P ∈ l,On a b P/\add a P P=R):l.length<=4:=by
 rcases l with _ | ⟨p0,_ | ⟨p1,_ | ⟨p2,_ | ⟨p3,_ | ⟨p4,l⟩⟩⟩⟩⟩
 iterate 5 simp
 exfalso
 simp only [List.nodup_cons,List.mem_cons,not_or] at hl;simp only [List.mem_cons,forall_eq_or_imp] at h;obtain ⟨⟨a1,a2,a3,a4,-⟩,⟨b2,b3,b4,-⟩,⟨c3,c4,-⟩,⟨d4,-⟩,-⟩:=hl;obtain ⟨h0,h1,h2,h3,h4,-⟩:=h
 have D:=fun {P:r_} (hP:On a b P/\add a P P=R) (hn:p0≠P)=>A7 hd hP.1 h0.1 hP.2 h0.2 (Ne.symm hn)
 obtain ⟨x1,e1,r1⟩:=D h1 a1;obtain ⟨x2,e2,r2⟩:=D h2 a2;obtain ⟨x3,e3,r3⟩:=D h3 a3;obtain ⟨x4,e4,r4⟩:=D h4 a4
 have I:=fun {P Q:r_} {x y:Rat} (hP:On a b P/\add a P P=R) (hQ:On a b Q/\add a Q Q=R) (hn:P≠Q) (e:add a P (neg p0)=.fin x 0) (e':add a Q (neg p0)=.fin y 0)=>show x≠y from fun q=>hn (DJ hd hP.1 hQ.1 h0.1 (by rw [e,e',q]))
 exact uf r1 r2 r3 r4 (I h1 h2 b2 e1 e2) (I h1 h3 b3 e1 e3) (I h2 h3 c3 e2 e3) (I h1 h4 b4 e1 e4) (I h2 h4 c4 e2 e4) (I h3 h4 d4 e3 e4)
theorem BF {a b m:Int} {p:Ib} (hm0:0<=m) (hm:m<=1000):∀ (f:Nat) (e:Int) (r:Ib),1<=e->e+f<=21->r ∈ Kd a b m p f e->aP a b r.1 r.2.1 r.2.2=true
 | 0,e,r,_,_,h=>by cases h
 | f+1,e,r,h1,h2,h=>by
  unfold Kd at h
  rcases List.mem_append.1 h with h | h
  ·obtain ⟨q,hq,h⟩:=List.mem_flatMap.1 h
   obtain ⟨j1,j2,j3,-⟩:=kQ h;obtain ⟨k1,k2⟩:=FG h1 ω hm hq;rw [j1,j2]
   rcases j3 with j3 | j3 <;> rw [j3]
   ·exact k1
   exact k2
  exact BF hm0 hm f (e+1) r ω ω h
theorem Hm {a b m X Y E:Int} {l:List Ib} (h:MR a b m (X,Y,E)=some l):l.length<=4/\∀ q ∈ l,eI a b q.1 q.2.1 q.2.2=true/\bB a q.1 q.2.1 q.2.2 q.1 q.2.1 q.2.2=true/\cK a q.1 q.2.1 q.2.2 q.1 q.2.1 q.2.2=X/\dC a q.1 q.2.1 q.2.2 q.1 q.2.1 q.2.2=Y/\cJ a q.1 q.2.1 q.2.2 q.1 q.2.1 q.2.2=E:=by
 unfold MR at h
 split at h
 ·rename_i hc
  rw [Bool.and_eq_true] at hc;obtain ⟨hg,hp⟩:=gP hc.1;obtain ⟨hm0,hm⟩:=bT.1 hc.2;have hl:l=Kd a b m (X,Y,E) 20 1 ++ (if E=0 then [(0,0,0)] else []):=(Option.some.inj h).symm
  have hq:∀ q ∈ l,aP a b q.1 q.2.1 q.2.2=true/\hf a (X,Y,E) q=true:=by
   intro q hq;rw [hl] at hq
   rcases List.mem_append.1 hq with hq | hq
   ·exact ⟨BF hm0 hm 20 1 q ω ω hq,(mW _ _ _ hq).2.2.1⟩
   split at hq
   ·rename_i hE
    obtain rfl:=List.mem_singleton.1 hq;obtain ⟨h1,h2⟩:=rQ hp hE;have h1:X=0:=h1;have h2:Y=0:=h2;have hE:E=0:=hE;subst h1 h2 hE;exact ⟨fY a b,by unfold hf bB cK dC cJ;simp⟩
   cases hq
  have hn:l.Nodup:=by
   rw [hl,List.nodup_append];refine ⟨lI _ _,by split <;> simp,fun r h1 s h2 e=>?_⟩;have:=(mW _ _ _ h1).1
   split at h2
   ·rw [e,List.mem_singleton.1 h2] at this
    exact absurd this δ
   cases h2
  have hf2:∀ q ∈ l,bB a q.1 q.2.1 q.2.2 q.1 q.2.1 q.2.2=true/\cK a q.1 q.2.1 q.2.2 q.1 q.2.1 q.2.2=X/\dC a q.1 q.2.1 q.2.2 q.1 q.2.1 q.2.2=Y/\cJ a q.1 q.2.1 q.2.2 q.1 q.2.1 q.2.2=E:=fun q h=>by
   have:=(hq q h).2;unfold hf at this
   simpa only [Bool.and_eq_true,beq_iff_eq] using this
  refine ⟨?_,fun q h=>⟨by unfold eI;rw [hg,(hq q h).1];rfl,hf2 q h⟩⟩;rw [←List.length_map (f:=fun q:Ib=>cg q.1 q.2.1 q.2.2)]
  refine tC (a:=a) (b:=b) (R:=cg X Y E) (dA (dk hg)) (List.pairwise_map.2 (hn.imp_of_mem fun {r s} hr hs hne e=>?_)) fun P hP=>?_
  ·obtain ⟨e1,e2,e3⟩:=tc (hq r hr).1 (hq s hs).1 e
   exact hne (Prod.ext e1 (Prod.ext e2 e3))
  obtain ⟨q,Tl,rfl⟩:=List.mem_map.1 hP;obtain ⟨k0,k1,k2,k3⟩:=hf2 q Tl;have:=jJ hg (hq q Tl).1 (hq q Tl).1 k0;rw [k1,k2,k3] at this;exact ⟨dt (hq q Tl).1,this.symm⟩
 cases h
end M
end
section
open Go.RowKit Go.Shelf open Gr M Rg Rw Wh
theorem M.FB {a:Int} {p q:M.Ib} {o:Bool} {x y e:Int} (h1:bB a q.1 q.2.1 q.2.2 q.1 q.2.1 q.2.2=o) (h2:cK a q.1 q.2.1 q.2.2 q.1 q.2.1 q.2.2=x) (h3:dC a q.1 q.2.1 q.2.2 q.1 q.2.1 q.2.2=y) (h4:cJ a q.1 q.2.1 q.2.2 q.1 q.2.1 q.2.2=e):M.hf a p q=true/\o=true/\x=p.1/\y=p.2.1/\e=p.2.2∨M.hf a p q=false/\(o=false∨o=true/\¬ x=p.1∨o=true/\x=p.1/\¬ y=p.2.1∨o=true/\x=p.1/\y=p.2.1/\¬ e=p.2.2):=by
 unfold M.hf;rw [h1,h2,h3,h4]
 by_cases k1:x=p.1 <;> by_cases k2:y=p.2.1 <;> by_cases k3:e=p.2.2 <;> cases o <;> simp [k1,k2,k3]
theorem ow (a b X Y E m:Int) (w:World) :
  Calls prog 18 #[.agg #[a,b],.agg #[X,Y,E],m] w fun r w'=>∃ v',r=.returned (.tuple #[v',.bool (M.MR a b m (X,Y,E)).isSome])/\eD w' v' ((M.MR a b m (X,Y,E)).getD [])/\Below w w w':=by
 have PT:∀ W,cB 51 #[.agg #[a,b],.agg #[X,Y,E]] W (eI a b X Y E):=fun W=>gI a b X Y E W
 have PN:∀ W,cP 35 #[m,(0:Int),(1000:Int)] W (M.ins m 0 1000):=fun W=>dW m 0 1000 W
 obtain ⟨wc,hw3,C,Q,B⟩:=eC w #[a,b] 25 #[X,Y,E] 40;have ⟨c0,c1,_,_,_⟩:=C.box;have ⟨q0,q1,q2⟩:=Q.aM
 cases hi:eI a b X Y E <;> cases hm:M.ins m 0 1000
 iterate 3
  rw [hi] at PT;rw [hm] at PN;rw [show M.MR a b m (X,Y,E)=none from if_neg (by rw [hi,hm];simp)];replace PT:=IU PT;replace PN:=IU PN;clear hi hm;go_enter func18,ntmps18
  go_wp2_with first | (go_at_call 51;with_reducible refine p_ (PT.out _) fun w4 hb4=>?_;replace B:=j_ B hb4) | (go_at_call 35;with_reducible refine Id (PN.out _) ?_)
  go_ret2;exact ⟨_,rfl,⟨none,0,rfl,.inl rfl⟩,B⟩
 obtain ⟨hm1,hm2⟩:=bT.1 hm;obtain ⟨hg,-⟩:=gP hi;rw [show M.MR a b m (X,Y,E)=some (M.Kd a b m (X,Y,E) 20 1 ++ (if E=0 then [(0,0,0)] else [])) from if_pos (by rw [hi,hm];rfl)];rw [hi] at PT;rw [hm] at PN
 have PX:=IU fun u x W h1 h2 h3 h4=>ta a b u x W hg h1 h2 h3 h4
 have PG:=IU fun (u x:Int) W (h1:1<=u) (h2:u<=20) (h3:-1000<=x) (h4:x<=1000)=>show cP 52 #[.int .i64 (x.natAbs:Int),u] W (.int .i64 (M.gcd x u)) from by rw [show M.gcd x u=M.gcd x.natAbs u from by simp [M.gcd,Int.gcd]];exact dR _ _ W ω ω ω ω
 have PB:=IU fun (x:Int) W (h3:-1000<=x) (h4:x<=1000)=>df x W ω ω
 have PA:=IU fun (q:M.Ib) W h=>kV a b q.1 q.2.1 q.2.2 q.1 q.2.1 q.2.2 W hg h h
 obtain ⟨p,hp⟩:∃ p:M.Ib,(X,Y,E)=p:=⟨_,rfl⟩
 obtain ⟨hX,hY,hE⟩:p.1=X/\p.2.1=Y/\p.2.2=E:=by rw [←hp];exact ⟨rfl,rfl,rfl⟩
 rw [hp]
 obtain ⟨T,hT⟩:∃ T,M.Kd a b m p 20 1=T:=⟨_,rfl⟩
 have hTl:T.length<=80040:=by rw [←hT];exact qz hm2 20 1
 rw [hT]
 obtain ⟨Z,hZ⟩:∃ Z:List M.Ib,(if E=0 then [(0,0,0)] else [])=Z:=⟨_,rfl⟩
 rw [hZ];replace hZ:=IU hZ;replace hT:=IU hT;replace hX:=IU hX;replace hY:=IU hY;replace hE:=IU hE;replace PT:=IU PT;replace PN:=IU PN;clear hi hm hg hp;go_enter func18,ntmps18
 go_wp2_with first | (go_at_call 51;with_reducible refine p_ (PT.out _) fun w4 hb4=>?_;replace ⟨B,C,Q⟩:=I7 hb4 B C Q;(have ⟨c0,c1,_,_,_⟩:=C.box);(have ⟨q0,q1,q2⟩:=Q.aM)) | (go_at_call 35;with_reducible refine Id (PN.out _) ?_)
 clear hw3 q0 q1 q2 c0 c1
 go_loopw [8,9] (fun vs vi wq=>∃ (u:Int) (out:List M.Ib),1<=u/\u<=21/\vi=.int .i64 u/\Hid (out ++ M.Kd a b m p (20+1 - u).toNat u=T)/\Hid (HS w4 [] vs out wq)) (fun _ vi _=>(21 - intOf vi).toNat)
 case atStart=>exact ⟨1,[],ω,ω,rfl,hT,IU (HS.start w4)⟩
 case round=>
 clear hT;obtain ⟨u,out,hu1,hu2,rfl,hs,H⟩:=hrel;obtain ⟨Av,cv,rfl,-,-,-⟩:=H.out.o.seen
 by_cases hu:u<=20
 ·replace hs:=(congrArg (out ++ ·) (tF hu)).symm.trans hs.out
  replace PX:=IU fun x W h1 h2=>PX.out u x W hu1 hu h1 h2
  replace PG:=IU fun x W h1 h2=>PG.out u x W hu1 hu h1 h2
  obtain ⟨R,hR⟩:∃ R,M.Kd a b m p (20+1 - (u+1)).toNat (u+1)=R:=⟨_,rfl⟩
  rw [hR] at hs;replace hs:=IU hs;go_wp2
  go_loopw [8,10] (fun vs vi wq=>∃ (x:Int) (out:List M.Ib),-m<=x/\x<=m+1/\vi=.int .i64 x/\Hid (out ++ ((M.Ke a b u (m+1 - x).toNat x).flatMap (M.KE a p) ++ R)=T)/\Hid (HS w4 [] vs out wq)) (fun _ vi _=>(m+1 - intOf vi).toNat)
  case atStart=>exact ⟨-m,out,ω,ω,rfl,hs,H⟩
  case round=>
  clear hs H;obtain ⟨x,out,hx1,hx2,rfl,hs,H⟩:=hrel;obtain ⟨Av,cv,rfl,-,-,-⟩:=H.out.o.seen
  by_cases hx:x<=m
  ·replace hs:=(congrArg (fun z=>out ++ (z.flatMap (M.KE a p) ++ R)) (th hx)).symm.trans hs.out
   rw [List.flatMap_append,EE,List.append_assoc] at hs;replace PX:=PX.out x;replace PG:=PG.out x;replace PB:=PB.out x
   have hok:=fun hg q h=>HV (a:=a) (b:=b) (e:=u) (x:=x) (q:=q) hu1 hu ω ω hg h
   have hcl:=Fr a b u x;generalize M.Mq a b u x=cd,M.gcd x u=g at *
   obtain ⟨R2,hR2⟩:∃ R2,(M.Ke a b u (m+1 - (x+1)).toNat (x+1)).flatMap (M.KE a p) ++ R=R2:=⟨_,rfl⟩
   rw [hR2] at hs;replace hR2:=IU hR2;replace PX:=IU PX;replace PG:=IU PG;replace PB:=IU PB;have ⟨c0,c1,_,_,_⟩:=(C.keep H.out.B).box
   by_cases hg1:g=1
   ·subst hg1
    rw [if_pos rfl] at hs;replace hok:=IU (hok rfl);replace hs:=IU hs
    obtain ⟨L,hL⟩:∃ L,L=cd.length:=⟨_,rfl⟩
    rw [←hL] at PX hcl;replace PX:=IU PX.out
    go_wp2_with first | (go_at_call 53;with_reducible refine Id (PB.out _ ω ω) ?_) | (go_at_call 52;with_reducible refine Id (PG.out _ ω ω) ?_) | (go_at_call 54;(with_reducible refine (PX.out _ ω ω).mono ?_);rintro e6 w6 ⟨A,cp,rfl,NZ,hb6⟩)
    obtain ⟨MS,hA6⟩:=NZ.z (cp:=cp)
    obtain ⟨Al,Wv,H6⟩:∃ Al,(0<L->A ∈ Al)/\HS w4 Al (.slice Av out.length cv) out w6:=by
     by_cases h0:cd=[]
     ·exact ⟨[],fun h=>(by rw [hL,h0] at h;cases h),H.out.below hb6⟩
     exact ⟨[A],fun _=>List.mem_singleton.2 rfl,H.out.add hb6 fun k=>hA6 k h0⟩
    rw [←hL] at MS;clear hA6 NZ hb6 H c0 c1
    go_loopw [8,45] (fun vs vk wq=>∃ (k:Nat) (out:List M.Ib),k<=L/\vk=.int .i64 k/\Hid (out ++ ((cd.drop k).filter (M.hf a p) ++ R2)=T)/\Hid (HS w4 Al vs out wq)/\Hid (eD wq (.slice A L cp) cd)) (fun _ vk _=>L - (intOf vk).toNat)
    case atStart=>exact ⟨0,out,Nat.zero_le _,rfl,hs,IU H6,IU MS⟩
    case round=>
    clear hs H6 MS;obtain ⟨k,out,hk,rfl,hs,H,hz⟩:=hrel;obtain ⟨Av,cv,rfl,-,-,-⟩:=H.out.o.seen
    by_cases hkl:k<L
    ·obtain ⟨q,hq⟩:∃ q,cd[k]?=some q:=⟨_,List.getElem?_eq_getElem ω⟩
     have hA:=Wv ω
     obtain ⟨g,rfl,hpa⟩:∃ g,A=some ⟨g,0,none⟩/\ew wr g cd:=by
      obtain ⟨A2,cap,e,h⟩:=hz.out;cases e
      rcases h with h | h
      ·rw [h] at hq;cases hq
      exact h
     obtain ⟨d0,d1,d2⟩:=hpa k q hq;replace hs:=hs.out;rw [List.drop_eq_getElem_cons ω,(List.getElem?_eq_some_iff.1 hq).2,List.filter_cons] at hs
     have PA:=fun W=>PA.out q W (hok.out q (List.mem_of_getElem? hq))
     have hc:=FB (a:=a) (p:=p) (q:=q) rfl rfl rfl rfl;have hTo:=congrArg List.length hs;rw [hX.out,hY.out,hE.out] at hc;clear hpa hq;obtain ⟨x1,x2,x3⟩:=q
     dsimp only at d0 d1 d2 PA hc
     generalize M.hf a p (x1,x2,x3)=h,bB a x1 x2 x3 x1 x2 x3=o,cJ a x1 x2 x3 x1 x2 x3=z3,dC a x1 x2 x3 x1 x2 x3=z2,cK a x1 x2 x3 x1 x2 x3=z1 at *;rw [List.length_append] at hTo;replace PA:=IU PA;have Bv:=bA wr (.cells #[x1,x2,x3] 40);have X_:=aG.new wr #[x1,x2,x3] 40;have ⟨v0,v1,v2⟩:=X_.aM;have ⟨c0,c1,_,_,_⟩:=((C.keep H.out.B).keep Bv).box
     obtain ⟨M0,hM0⟩:∃ m,m=out.length:=⟨_,rfl⟩
     have H:=H;rw [←hM0] at H hTo ⊢;replace hM0:=IU hM0
     have XT:(k:Int)<(L:Int):=ω
     rcases hc with ⟨rfl,rfl,rfl,rfl,rfl⟩ | ⟨rfl,hc⟩
     ·rw [if_pos rfl,List.cons_append,←List.singleton_append,←List.append_assoc] at hs
      replace hs:=IU hs
      go_wp2_with first | (go_at_call 55;with_reducible refine p_ (PA.out _) fun w7 Ig=>?_;have b_:=bA w7 (.cells #[z1,z2,z3] 40);(have ⟨s0,s1,s2⟩:=(aG.new w7 #[z1,z2,z3] 40).aM);have BB:=Bv.trans ((j_ Ig b_).mono Bv.size);(have ⟨q0,q1,q2⟩:=(Q.keep (H.out.below BB).B).aM);(have ⟨v0,v1,v2⟩:=((X_.keep Ig).keep b_).aM)) | (at_builtin;refine oi iK w4.heap.size [(x1,x2,x3)] out _ ⟨_,0,none⟩ 1 1 (by rfl) (by rfl) (.tmp 62) (.tmp 64) (by rfl) (by rfl) (by rfl) (gJ x1 x2 x3 σ) ((H.out.below BB).o.alloc _) (Nat.le_trans (H.out.below BB).B.size (bA _ _).size) (by have:=hM0.out;simp;omega) ?_;intro v9 w9 J2 Kv L4)
      go_roundw
      case rel=>
       have H3:=(H.out.below BB).below (bA _ (.cells #[x1,x2,x3] 40));exact ⟨k+1,_,ω,ν,hs,IU (H3.push J2 Kv L4),IU (H3.pts Kv ((hz.out.below BB).below (bA _ _)) hA)⟩
      case measure=>simp [intOf];omega
     rw [if_neg δ] at hs;replace hs:=IU hs
     rcases hc with rfl | ⟨rfl,hc⟩ | ⟨rfl,rfl,hc⟩ | ⟨rfl,rfl,rfl,hc⟩
     all_goals
      go_wp2_with (go_at_call 55;with_reducible refine p_ (PA.out _) fun w7 Ig=>?_;have b_:=bA w7 (.cells #[z1,z2,z3] 40);(have ⟨s0,s1,s2⟩:=(aG.new w7 #[z1,z2,z3] 40).aM);have BB:=Bv.trans ((j_ Ig b_).mono Bv.size);(have ⟨q0,q1,q2⟩:=(Q.keep (H.out.below BB).B).aM);(have ⟨v0,v1,v2⟩:=((X_.keep Ig).keep b_).aM))
      go_roundw
      case rel=>exact ⟨k+1,_,ω,ν,hs,IU (hM0.out ▸ H.out.below BB),IU (hz.out.below BB)⟩
      case measure=>simp [intOf];omega
    obtain rfl:k=L:=ω
    replace hs:=hs.out;rw [List.drop_eq_nil_of_le ω,List.filter_nil,List.nil_append,←hR2.out] at hs;replace hs:=IU hs;go_wp2
    go_roundw
    case rel=>exact ⟨x+1,out,ω,ω,ν,hs,IU H.out.nil⟩
    case measure=>simp [intOf];omega
   have hgb:¬ g=1:=hg1;rw [if_neg hg1,List.nil_append,←hR2] at hs;replace hs:=IU hs
   go_wp2_with first | (go_at_call 53;with_reducible refine Id (PB.out _ ω ω) ?_) | (go_at_call 52;with_reducible refine Id (PG.out _ ω ω) ?_)
   go_roundw
   case rel=>exact ⟨x+1,out,ω,ω,ν,hs,H⟩
   case measure=>simp [intOf];omega
  obtain rfl:x=m+1:=ω
  replace hs:=hs.out;rw [show (m+1 - (m+1)).toNat=0 by omega,show M.Ke a b u 0 (m+1)=[] from rfl,List.flatMap_nil,List.nil_append,←hR] at hs;replace hs:=IU hs;go_wp2
  go_roundw
  case rel=>exact ⟨u+1,out,ω,ω,ν,hs,H⟩
  case measure=>simp [intOf];omega
 obtain rfl:u=21:=ω
 obtain rfl:out=T:=(List.append_nil out).symm.trans hs.out;have ⟨q0,q1,q2⟩:=(Q.keep H.out.B).aM;have H:=H
 obtain ⟨M0,hM0⟩:∃ m,m=out.length:=⟨_,rfl⟩
 rw [←hM0] at H ⊢
 by_cases hE0:E=0
 ·subst hE0
  obtain rfl:[(0,0,0)]=Z:=(if_pos rfl).symm.trans hZ.out
  go_wp2_with (at_builtin;refine oi iK w4.heap.size [(0,0,0)] out _ ⟨_,0,none⟩ 1 1 (by rfl) (by rfl) (.tmp 70) (.tmp 72) (by rfl) (by rfl) (by rfl) (gJ 0 0 0 σ) (H.out.o.alloc _) (Nat.le_trans H.out.B.size (bA _ _).size) (by simp;omega) ?_;intro v9 w9 J2 Kv L4)
  go_ret2;exact ⟨_,rfl,J2.seen.Nd,B.trans (((H.out.below (bA _ _)).push J2 Kv L4).B.mono B.size)⟩
 subst hM0;obtain rfl:[]=Z:=(if_neg hE0).symm.trans hZ.out;have hEb:(E == 0)=false:=beq_eq_false_iff_ne.2 hE0;go_wp2;go_ret2;exact ⟨_,rfl,H.out.o.seen.Nd,B.trans (H.out.B.mono B.size)⟩
end
end Go.Proofs.YtkalaljcbmkbmaaGreat
