/-
  Joined texts: contracts and plain lemmas.
-/
import Derived.Test.YtkalaljcbmkbmaaGreatB1
import Derived.Test.YtkalaljcbmkbmaaGreatB17
import Derived.Test.YtkalaljcbmkbmaaGreatB13
import Derived.Test.YtkalaljcbmkbmaaGreatB2
import Derived.Maps.AppendAt
import Derived.Great.BuildSlice
import Derived.Laws.Tables
import Derived.Test.YtkalaljcbmkbmaaGreatB4
set_option linter.unusedSimpArgs false
set_option linter.unusedVariables false
set_option maxRecDepth 100000
set_option maxHeartbeats 8000000
namespace Go.Proofs.YtkalaljcbmkbmaaGreat
open _root_.Go.Proofs.Tryz
section
open Go.RowKit Go.Shelf open Gr M Rg Rw Wh
theorem M.Gu (n:Nat) (h:n<=1000000):IntKind.i64.wrap (n:Int)=(n:Int):=by
 have hm:(n:Int) % 18446744073709551616=n:=ω
 simp only [IntKind.wrap,IntKind.bits,IntKind.signed,show (2:Int) ^ 64=18446744073709551616 from δ,show (2:Int) ^ (64 - 1)=9223372036854775808 from δ,hm];rw [if_neg];simp
 omega
theorem M.wV (a:Int) (p:M.Ib) (O:List M.Ib) (y:Int) (r:M.Ib):(M.hst a p O y r).length<=O.length+1:=by unfold M.hst;split <;> (try split) <;> simp
theorem M.CU (y:Int) (out:List M.Ib) (r:M.Ib):(¬ y=0/\decide (y=0/\out.getLast?=some r)=false)∨(y=0/\out=[]/\decide (y=0/\out.getLast?=some r)=false)∨∃ L t,out=L ++ [t]/\y=0/\(¬ t.1=r.1/\decide (y=0/\out.getLast?=some r)=false∨t.1=r.1/\¬ t.2.1=r.2.1/\decide (y=0/\out.getLast?=some r)=false∨t.1=r.1/\t.2.1=r.2.1/\¬ t.2.2=r.2.2/\decide (y=0/\out.getLast?=some r)=false∨t.1=r.1/\t.2.1=r.2.1/\t.2.2=r.2.2/\decide (y=0/\out.getLast?=some r)=true):=by
 by_cases hy:y=0
 ·rcases List.eq_nil_or_concat out with rfl | ⟨L,t,rfl⟩
  ·exact .inr (.inl ⟨hy,rfl,σ⟩)
  refine .inr (.inr ⟨L,t,σ,hy,?_⟩);obtain ⟨t1,t2,t3⟩:=t;obtain ⟨r1,r2,r3⟩:=r;simp only [hy,List.concat_eq_append,List.getLast?_append,List.getLast?_singleton,Option.some_or,Option.some.injEq,Prod.mk.injEq,true_and]
  by_cases k1:t1=r1 <;> by_cases k2:t2=r2 <;> by_cases k3:t3=r3 <;> simp [k1,k2,k3]
 exact .inl ⟨hy,by simp [hy]⟩
theorem oI (a b X Y E m:Int) (w:World) :
  Calls prog 17 #[.agg #[a,b],.agg #[X,Y,E],m] w fun r w'=>∃ v',r=.returned (.tuple #[v',.bool (M.MR a b m (X,Y,E)).isSome])/\eD w' v' ((M.MR a b m (X,Y,E)).getD [])/\Below w w w':=by
 have PT:∀ W,cB 47 #[.agg #[a,b],.agg #[X,Y,E]] W (eI a b X Y E):=fun W=>jP a b X Y E W
 have PN:∀ W,cP 28 #[m,(0:Int),(1000:Int)] W (M.ins m 0 1000):=fun W=>dV m 0 1000 W
 obtain ⟨wc,hw3,C,Q,B⟩:=eC w #[a,b] 25 #[X,Y,E] 40;have ⟨c0,c1,_,_,_⟩:=C.box;have ⟨q0,q1,q2⟩:=Q.aM
 cases hi:eI a b X Y E <;> cases hm:M.ins m 0 1000
 iterate 3
  rw [hi] at PT;rw [hm] at PN;rw [show M.MR a b m (X,Y,E)=none from if_neg (by rw [hi,hm];simp)];replace PT:=IU PT;replace PN:=IU PN;clear hi hm;go_enter func17,ntmps17
  go_wp2_with first | (go_at_call 47;with_reducible refine p_ (PT.out _) fun w4 hb4=>?_;replace B:=j_ B hb4) | (go_at_call 28;with_reducible refine Id (PN.out _) ?_)
  go_ret2;exact ⟨_,rfl,⟨none,0,rfl,.inl rfl⟩,B⟩
 obtain ⟨hm1,hm2⟩:=bT.1 hm;obtain ⟨hg,-⟩:=gP hi;have hin:=IU (aY hg);rw [show M.MR a b m (X,Y,E)=some (M.Kd a b m (X,Y,E) 20 1 ++ (if E=0 then [(0,0,0)] else [])) from if_pos (by rw [hi,hm];rfl)];rw [hi] at PT;rw [hm] at PN
 have PE:=IU fun u W h1 h2=>pM a b u m W hg h1 h2 hm1 hm2
 have PA:=IU fun (q:M.Ib) W h=>dz a b q.1 q.2.1 q.2.2 q.1 q.2.1 q.2.2 W hg h h
 obtain ⟨p,hp⟩:∃ p:M.Ib,(X,Y,E)=p:=⟨_,rfl⟩
 obtain ⟨hX,hY,hE⟩:p.1=X/\p.2.1=Y/\p.2.2=E:=by rw [←hp];exact ⟨rfl,rfl,rfl⟩
 rw [hp]
 obtain ⟨T,hT⟩:∃ T,M.Kd a b m p 20 1=T:=⟨_,rfl⟩
 have hTl:T.length<=80040:=by rw [←hT];exact qz hm2 20 1
 have hTn:=IU (show T.Nodup by rw [←hT];exact lI 20 1);rw [hT]
 obtain ⟨Z,hZ⟩:∃ Z:List M.Ib,(if E=0 then [(0,0,0)] else [])=Z:=⟨_,rfl⟩
 rw [hZ];replace hZ:=IU hZ;replace hT:=IU hT;replace hX:=IU hX;replace hY:=IU hY;replace hE:=IU hE;replace PT:=IU PT;replace PN:=IU PN;clear hi hm hg hp;go_enter func17,ntmps17
 go_wp2_with first | (go_at_call 47;with_reducible refine p_ (PT.out _) fun w4 hb4=>?_;replace ⟨B,C,Q⟩:=I7 hb4 B C Q;(have ⟨c0,c1,_,_,_⟩:=C.box);(have ⟨q0,q1,q2⟩:=Q.aM)) | (go_at_call 28;with_reducible refine Id (PN.out _) ?_)
 clear hw3 q0 q1 q2 c0 c1
 go_loopw [8,9] (fun vs vi wq=>∃ (u:Int) (out:List M.Ib),1<=u/\u<=21/\vi=.int .i64 u/\Hid (out ++ M.Kd a b m p (20+1 - u).toNat u=T)/\Hid (HS w4 [] vs out wq)) (fun _ vi _=>(21 - intOf vi).toNat)
 case atStart=>exact ⟨1,[],ω,ω,rfl,hT,IU (HS.start w4)⟩
 case round=>
 clear hT;obtain ⟨u,out,hu1,hu2,rfl,hs,H⟩:=hrel;obtain ⟨Av,cv,rfl,-,-,-⟩:=H.out.o.seen
 by_cases hu:u<=20
 ·replace hs:=(congrArg (out ++ ·) (tF hu)).symm.trans hs.out
  replace PE:=fun W=>PE.out u W hu1 hu
  obtain ⟨R,hR⟩:∃ R,M.Kd a b m p (20+1 - (u+1)).toNat (u+1)=R:=⟨_,rfl⟩
  rw [hR] at hs
  have hpw:=fun k (q:M.Ib) (h:(M.Ke a b u (m+1 - -m).toNat (-m))[k]?=some q)=>FG hu1 hu hm2 (List.mem_of_getElem? h)
  have hpl:=rT a b u (m+1 - -m).toNat (-m);generalize M.Ke a b u (m+1 - -m).toNat (-m)=pw at *;replace hs:=IU hs;replace PE:=IU PE;replace hpw:=IU hpw
  obtain ⟨L,hL⟩:∃ L,L=pw.length:=⟨_,rfl⟩
  have ⟨c0,c1,_,_,_⟩:=(C.keep H.out.B).box
  go_wp2_with (go_at_call 48;(with_reducible refine (PE.out _).mono ?_);rintro e6 w6 ⟨v6,rfl,Kx,hb6⟩;(obtain ⟨A,cp,rfl,-,-,-⟩:=Kx.seen))
  obtain ⟨Al,Wv,H6⟩:∃ Al,(0<L->A ∈ Al)/\HS w4 Al (.slice Av out.length cv) out w6:=by
   by_cases h0:pw=[]
   ·exact ⟨[],fun h=>(by rw [hL,h0] at h;cases h),H.out.below hb6⟩
   exact ⟨[A],fun _=>List.mem_singleton.2 rfl,H.out.add hb6 fun k e=>Kx.lt k (by rw [e];rfl)⟩
  have MS:=Kx.seen.Nd;rw [←hL] at MS ⊢;clear Kx hb6 H c0 c1
  go_loopw [8,34] (fun vs vk wq=>∃ (k:Nat) (out:List M.Ib),k<=L/\vk=.int .i64 k/\Hid (out ++ ((pw.drop k).flatMap (M.KE a p) ++ R)=T)/\Hid (HS w4 Al vs out wq)/\Hid (eD wq (.slice A L cp) pw)) (fun _ vk _=>L - (intOf vk).toNat)
  case atStart=>exact ⟨0,out,Nat.zero_le _,rfl,hs,IU H6,IU MS⟩
  case round=>
  clear hs H6 MS;obtain ⟨k,out,hk,rfl,hs,H,hz⟩:=hrel;obtain ⟨Av,cv,rfl,-,-,-⟩:=H.out.o.seen
  by_cases hkl:k<L
  ·obtain ⟨q,hq⟩:∃ q,pw[k]?=some q:=⟨_,List.getElem?_eq_getElem ω⟩
   have hA:=Wv ω
   obtain ⟨g,rfl,hpa⟩:∃ g,A=some ⟨g,0,none⟩/\ew wr g pw:=by
    obtain ⟨A2,cap,e,h⟩:=hz.out;cases e
    rcases h with h | h
    ·rw [h] at hq;cases hq
    exact h
   obtain ⟨d0,d1,d2⟩:=hpa k q hq;replace hs:=hs.out;rw [List.drop_eq_getElem_cons ω,(List.getElem?_eq_some_iff.1 hq).2,List.flatMap_cons,List.append_assoc,←List.append_assoc] at hs;obtain ⟨hk1,hk2⟩:=hpw.out k q hq;have DY:=DY (a:=a) (p:=p) (q:=q) (O:=out) (by have:=hTn.out;rw [←hs] at this;exact (List.nodup_append.1 this).1)
   have hol0:out.length<=80040:=by have:=congrArg List.length hs;simp only [List.length_append] at this;omega
   rw [←DY] at hs;replace hs:=IU hs;clear hpa hq DY;obtain ⟨x1,x2,x3⟩:=q
   dsimp only at d0 d1 d2 hs hk1 hk2
   have hyb:-3000000<=x2/\x2<=3000000:=by rcases gL hin.out hk1 with h | h <;> omega
   replace hk1:=IU hk1;replace hk2:=IU hk2;have Bv:=bA wr (.cells #[x1,x2,x3] 40);have X_:=aG.new wr #[x1,x2,x3] 40;replace H:=IU (H.out.add (a:=some ⟨wr,0,none⟩) Bv (fun k e=>by injection e with e;injection e with e;subst e;exact ⟨IY _,X_.lt⟩));replace hz:=IU (hz.out.below Bv)
   have XT:(k:Int)<(L:Int):=ω
   replace hL:=IU hL;have SL:=IU hkl;have ⟨v0,v1,v2⟩:=X_.aM
   obtain ⟨gq,hgq⟩:∃ gq,wr.heap.size=gq:=⟨_,rfl⟩
   go_upto_region 10 with fail
   rw [hgq] at X_ H;generalize wr.alloc (.cells #[x1,x2,x3] 40)=wb at *;clear Bv hgq;refine b8 6 [.is (.agg #[x1,x2,x3]),.is (.agg #[x1,(-x2:Int),x3]),.is (.agg #[x1,x2,x3]),.at (fun v W=>∃ g,v=.slice (some ⟨g,0,none⟩) 2 2/\wb.heap.size<=g/\aG W g 40 #[x1,(-x2:Int),x3,x1,x2,x3]),.is (2:Int),.is (0:Int)] κ κ κ ⟨?_,?_,?_,?_,?_,?_,trivial⟩ ?_
   ·refine Rg.b1 ?_;intro zZ w_ hB e
    have k0:=aE hB X_.aM.1;have k1:=aE hB X_.aM.2.1;have k2:=aE hB X_.aM.2.2;go_simp
   ·refine Rg.o1 ?_;intro zZ w_ hB e
    have ef:=Rg.ef zZ;exact bp rfl γ (j7 x1 x2 x3 w_ ω ω)
   ·refine Rg.b1 ?_;intro zZ w_ hB e
    have k0:=aE hB X_.aM.1;have k1:=aE hB X_.aM.2.1;have k2:=aE hB X_.aM.2.2;go_simp
   ·intro _ zZ w_ hB hr
    have e39:=Rg.t_ (hr 39 δ);have e40:=Rg.t_ (hr 40 δ);exact oO rfl (x:=.slice (some ⟨w_,0,none⟩) 2 2) (ob:=.cells #[x1,(-x2:Int),x3,x1,x2,x3] 40) (by (first | (go_simp;done) | (go_simp;omega) | (go_simp;rfl))) (fun w6 hb6=>⟨w_,rfl,hB.size,(aG.new w_ _ _).keep hb6⟩)
   ·intro _ zZ w_ hB hr
    obtain ⟨v41,e41,n41⟩:∃ v,zZ.tmps[41]?=some v/\(Rg.Val.at (fun v W=>∃ g,v=.slice (some ⟨g,0,none⟩) 2 2/\wb.heap.size<=g/\aG W g 40 #[x1,(-x2:Int),x3,x1,x2,x3])).ok v w_:=hr 41 δ;obtain ⟨g_,rfl,-,-⟩:=cE n41;exact aU rfl (by (first | (go_simp;done) | (go_simp;omega) | (go_simp;rfl)))
   ·refine Rg.b0 ?_;intro zZ w_ hB
    have ec:=Rg.ec zZ;go_simp
   intro vals wz hB hv hne;have n41:=cE (hv 3 δ);have Mm:vals 4=.int .i64 2:=hv 4 δ;have MV:vals 5=.int .i64 0:=hv 5 δ;simp only [bD,Rg.fill,Act.put,Nat.reduceAdd];clear hv;simp only [Mm,MV];clear Mm MV;obtain ⟨g4,e4,hg4,V4⟩:=n41;rw [e4];replace X_:=X_.keep hB;have hgw:=V4.lt;replace H:=IU (H.out.add (a:=some ⟨g4,0,none⟩) hB (fun k e=>by injection e with e;injection e with e;subst e;exact ⟨hg4,hgw⟩));replace hz:=IU (hz.out.below hB);clear hB hne e4 hg4 hgw;unfold aV;go_wp2
   obtain ⟨J,hJ0,Nz,hJ2⟩:∃ J:Nat->List M.Ib,J 0=out/\J 1=M.hst a p (J 0) x2 (x1,-x2,x3)/\J 2=M.hst a p (J 1) x2 (x1,x2,x3):=⟨fun j=>match j with | 0=>out | 1=>M.hst a p out x2 (x1,-x2,x3) | _=>M.hst a p (M.hst a p out x2 (x1,-x2,x3)) x2 (x1,x2,x3),rfl,rfl,rfl⟩
   rw [←hJ0,←Nz,←hJ2] at hs
   have hol:Hid (∀ j (o:List M.Ib),j<=2->o=J j->o.length<=100000):=IU (by
    intro j o hj e;have l1:=wV a p (J 0) x2 (x1,-x2,x3);have l2:=wV a p (J 1) x2 (x1,x2,x3);rw [←Nz] at l1;rw [←hJ2] at l2;rw [hJ0] at l1;subst e
    obtain rfl | rfl | rfl:j=0∨j=1∨j=2:=ω
    ·rw [hJ0];omega
    ·omega
    omega)
   replace Nz:=IU Nz;replace hJ2:=IU hJ2
   go_loopw [8,43] (fun vs vj wq=>∃ (j:Nat) (out:List M.Ib),j<=2/\vj=.int .i64 j/\Hid (out=J j)/\Hid (HS w4 (some ⟨g4,0,none⟩ :: some ⟨gq,0,none⟩ :: Al) vs out wq)/\Hid (eD wq (.slice (some ⟨g,0,none⟩) L cp) pw)/\aG wq gq 40 #[x1,x2,x3]/\aG wq g4 40 #[x1,(-x2:Int),x3,x1,x2,x3]) (fun _ vj _=>2 - (intOf vj).toNat)
   case atStart=>exact ⟨0,out,ω,rfl,IU hJ0.symm,H,hz,X_,V4⟩
   case round=>
   clear H hz X_ V4 hJ0 v0 v1 v2 d0 d1 d2;obtain ⟨j,out,hj,rfl,ho,H,hz,X_,V4⟩:=hrel
   by_cases hj2:j<2
   ·obtain ⟨yy,hyk,e0,e1,e2,hnx⟩:∃ yy,aP a b x1 yy x3=true/\wr.cell? ⟨g4,j*3,none⟩=some (.int .i64 x1)/\wr.cell? ⟨g4,j*3+1,none⟩=some (.int .i64 yy)/\wr.cell? ⟨g4,j*3+2,none⟩=some (.int .i64 x3)/\J (j+1)=M.hst a p out x2 (x1,yy,x3):=by
     obtain rfl | rfl:j=0∨j=1:=ω
     ·exact ⟨-x2,hk2.out,V4.cell 0,V4.cell 1,V4.cell 2,by rw [ho.out];exact Nz.out⟩
     exact ⟨x2,hk1.out,V4.cell 3,V4.cell 4,V4.cell 5,by rw [ho.out];exact hJ2.out⟩
    have PA:=fun W=>PA.out (x1,yy,x3) W hyk
    have hc:=FB (a:=a) (p:=p) (q:=(x1,yy,x3)) rfl rfl rfl rfl;rw [hX.out,hY.out,hE.out] at hc
    dsimp only at PA hc
    unfold M.hst at hnx;generalize M.hf a p (x1,yy,x3)=h,bB a x1 yy x3 x1 yy x3=o,cJ a x1 yy x3 x1 yy x3=z3,dC a x1 yy x3 x1 yy x3=z2,cK a x1 yy x3 x1 yy x3=z1 at *;have hsk:=CU x2 out (x1,yy,x3)
    obtain ⟨sk,hk⟩:∃ sk,decide (x2=0/\out.getLast?=some (x1,yy,x3))=sk:=⟨_,rfl⟩
    replace hnx:J (j+1)=if sk=true then out else if h=true then out ++ [(x1,yy,x3)] else out:=by rw [hnx,←hk];simp only [decide_eq_true_eq]
    rw [hk] at hsk;replace hnx:=IU hnx;replace PA:=IU PA;have hnw:=ho;clear hk hyk ho;obtain ⟨Av,cv,rfl,-,-,-⟩:=H.out.o.seen;have Bv:=bA wr (.cells #[x1,yy,x3] 40);have Y_:=aG.new wr #[x1,yy,x3] 40
    have hj3:(j:Int)<2:=ω
    go_upto_region 13 with fail
    have H2:=H.out.below Bv;replace hz:=IU (hz.out.below Bv);replace ⟨X_,V4⟩:=Im Bv X_ V4;clear H Bv e0 e1 e2;generalize hgr:wr.heap.size=gr at *;generalize wr.alloc (.cells #[x1,yy,x3] 40)=wS at *;have ⟨s0,s1,s2⟩:=X_.aM;have ⟨y0,y1,y2⟩:=Y_.aM
    obtain ⟨M0,hM0⟩:∃ m,m=out.length:=⟨_,rfl⟩
    have hM6:M0<=100000:=hM0 ▸ (hol.out j out ω hnw.out);rw [←hM0] at H2 ⊢;replace hM0:=IU hM0
    try rw [show decide (k<L)=true from decide_eq_true hkl]
    go_cut [64] (fun c wx=>c=.bool sk/\Below wS wS wx)
    case first=>
     rcases hsk with ⟨h0,rfl⟩ | ⟨rfl,rfl,rfl⟩ | ⟨L0,t,rfl,rfl,hd⟩
     ·have hy0:(x2 == 0)=false:=beq_eq_false_iff_ne.2 h0
      go_wp2_with fail
      go_quiet (fail)
      go_wp2
      go_meet
      first | exact ⟨rfl,IX _ _⟩ | exact ⟨rfl,ez (IX _ _) _⟩
     ·obtain rfl:M0=0:=hM0.out
      go_wp2_with fail
      go_quiet (fail)
      go_wp2
      go_meet
      first | exact ⟨rfl,IX _ _⟩ | exact ⟨rfl,ez (IX _ _) _⟩
     obtain ⟨g8,hA8,hp8⟩:∃ g8,Av=some ⟨g8,0,none⟩/\ew wS g8 (L0 ++ [t]):=by
      obtain ⟨A2,cap,e,h⟩:=H2.o.seen.Nd;cases e
      rcases h with h | h
      ·simp at h
      exact h
     subst hA8
     obtain ⟨n0,hn0⟩:∃ n0,L0.length=n0:=⟨_,rfl⟩
     obtain ⟨d0,d1,d2⟩:=hp8 n0 t (by rw [←hn0];simp)
     have hM1:M0=n0+1:=by rw [hM0.out,←hn0];simp
     have hM2:((M0:Nat):Int) - 1=(n0:Int):=ω
     have Ks:0<M0:=ω
     have Mr:(n0:Int)<(M0:Int):=ω
     have hM5:n0<M0:=ω
     have hM7:IntKind.i64.wrap (n0:Int)=n0:=Gu n0 ω;clear H2 hp8 hn0 hM0 hM1;obtain ⟨t1,t2,t3⟩:=t
     dsimp only at d0 d1 d2 hd
     rcases hd with ⟨h1,rfl⟩ | ⟨rfl,h1,rfl⟩ | ⟨rfl,rfl,h1,rfl⟩ | ⟨rfl,rfl,rfl,rfl⟩
     all_goals
      go_wp2_with fail
      go_quiet (fail)
      go_wp2
      go_meet
      first | exact ⟨rfl,IX _ _⟩ | exact ⟨rfl,ez (IX _ _) _⟩
    case rest=>
    obtain ⟨rfl,hbr⟩:=hcut;replace H2:=H2.below hbr;replace hz:=hz.out.below hbr;replace ⟨X_,V4,Y_⟩:=I7 hbr X_ V4 Y_;clear hsk s0 s1 s2 y0 y1 y2 hbr;replace X_:=IU X_;replace V4:=IU V4;have ⟨y0,y1,y2⟩:=Y_.aM;have ⟨c0,c1,_,_,_⟩:=(C.keep H2.B).box;replace hnx:=hnx.out
    cases sk with
    | true=>
     rw [if_pos rfl] at hnx;replace hnx:=IU hnx;replace hz:=IU hz;replace H2:=IU (hM0.out ▸ H2);obtain rfl:=hM0.out;go_wp2
     go_roundw
     case rel=>exact ⟨j+1,out,ω,ν,IU hnx.out.symm,H2,hz,X_.out,V4.out⟩
     case measure=>simp [intOf];omega
    | false=>
    rw [if_neg δ] at hnx
    rcases hc with ⟨rfl,rfl,rfl,rfl,rfl⟩ | ⟨rfl,hc⟩
    ·rw [if_pos rfl] at hnx
     replace hnx:=IU hnx;replace hz:=IU hz
     go_wp2_with first | (go_at_call 50;with_reducible refine p_ (PA.out _) fun w7 Ig=>?_;have b_:=bA w7 (.cells #[z1,z2,z3] 40);(have ⟨s0,s1,s2⟩:=(aG.new w7 #[z1,z2,z3] 40).aM);have BB:=j_ Ig b_;(have ⟨q0,q1,q2⟩:=(Q.keep (H2.below BB).B).aM);(have ⟨v0,v1,v2⟩:=(Y_.keep BB).aM)) | (at_builtin;refine oi iK w4.heap.size [(x1,yy,x3)] out _ ⟨_,0,none⟩ 1 1 (by rfl) (by rfl) (.tmp 78) (.tmp 80) (by rfl) (by rfl) (by rfl) (gJ x1 yy x3 σ) ((H2.below BB).o.alloc _) (Nat.le_trans (H2.below BB).B.size (bA _ _).size) (by have:=hM0.out;simp;omega) ?_;intro v9 w9 J2 Kv L4)
     go_roundw
     case rel=>
      have B9:=BB.trans ((bA _ (.cells #[x1,yy,x3] 40)).mono BB.size);exact ⟨j+1,_,ω,ν,IU hnx.out.symm,IU ((H2.below B9).push J2 Kv L4),IU ((H2.below B9).pts Kv (hz.out.below B9) (List.mem_cons_of_mem _ (List.mem_cons_of_mem _ hA))),(H2.below B9).var Kv (X_.out.keep B9) (List.mem_cons_of_mem _ (List.mem_cons_self ..)),(H2.below B9).var Kv (V4.out.keep B9) (List.mem_cons_self ..)⟩
     case measure=>simp [intOf];omega
    rw [if_neg δ] at hnx;replace hnx:=IU hnx;replace hz:=IU hz;obtain rfl:=hM0.out
    rcases hc with rfl | ⟨rfl,hc⟩ | ⟨rfl,rfl,hc⟩ | ⟨rfl,rfl,rfl,hc⟩
    all_goals
     go_wp2_with (go_at_call 50;with_reducible refine p_ (PA.out _) fun w7 Ig=>?_;have b_:=bA w7 (.cells #[z1,z2,z3] 40);(have ⟨s0,s1,s2⟩:=(aG.new w7 #[z1,z2,z3] 40).aM);have BB:=j_ Ig b_;(have ⟨q0,q1,q2⟩:=(Q.keep (H2.below BB).B).aM);(have ⟨v0,v1,v2⟩:=(Y_.keep BB).aM))
     go_roundw
     case rel=>exact ⟨j+1,out,ω,ν,IU hnx.out.symm,IU (H2.below BB),IU (hz.out.below BB),X_.out.keep BB,V4.out.keep BB⟩
     case measure=>simp [intOf];omega
   obtain rfl:j=2:=ω
   rw [←ho.out] at hs
   have hkb:(k:Int)+1<=3000000:=by have:=hL.out;omega
   go_wp2
   go_roundw
   case rel=>exact ⟨k+1,out,SL.out,ν,hs,IU ⟨H.out.B,H.out.o,fun a h=>H.out.f a (List.mem_cons_of_mem _ (List.mem_cons_of_mem _ h))⟩,hz⟩
   case measure=>simp [intOf];have:=hL.out;have:=SL.out;omega
  obtain rfl:k=L:=ω
  replace hs:=hs.out;rw [List.drop_eq_nil_of_le ω,List.flatMap_nil,List.nil_append,←hR] at hs;replace hs:=IU hs;go_wp2
  go_roundw
  case rel=>exact ⟨u+1,out,ω,ω,ν,hs,IU H.out.nil⟩
  case measure=>simp [intOf];omega
 obtain rfl:u=21:=ω
 obtain rfl:out=T:=(List.append_nil out).symm.trans hs.out;have ⟨q0,q1,q2⟩:=(Q.keep H.out.B).aM;have H:=H
 obtain ⟨M0,hM0⟩:∃ m,m=out.length:=⟨_,rfl⟩
 rw [←hM0] at H ⊢
 by_cases hE0:E=0
 ·subst hE0
  obtain rfl:[(0,0,0)]=Z:=(if_pos rfl).symm.trans hZ.out
  go_wp2_with (at_builtin;refine oi iK w4.heap.size [(0,0,0)] out _ ⟨_,0,none⟩ 1 1 (by rfl) (by rfl) (.tmp 87) (.tmp 89) (by rfl) (by rfl) (by rfl) (gJ 0 0 0 σ) (H.out.o.alloc _) (Nat.le_trans H.out.B.size (bA _ _).size) (by simp;omega) ?_;intro v9 w9 J2 Kv L4)
  go_ret2;exact ⟨_,rfl,J2.seen.Nd,B.trans (((H.out.below (bA _ _)).push J2 Kv L4).B.mono B.size)⟩
 subst hM0;obtain rfl:[]=Z:=(if_neg hE0).symm.trans hZ.out;have hEb:(E == 0)=false:=beq_eq_false_iff_ne.2 hE0;go_wp2;go_ret2;exact ⟨_,rfl,H.out.o.seen.Nd,B.trans (H.out.B.mono B.size)⟩
end
section
open Go Go.RowKit open Gr M Rg
namespace Dw
inductive S1 where
 | any | i | b | c | z
 | n (lo hi:Nat)
 | k (t:Bool)
 | f (m:Nat)
 | p (own:Bool) (m:Nat)
 | s (m lo hi:Nat)
 | o (e m lo hi:Nat)
 | t2 (x y:S1)
 | t3 (x y u:S1)
def Jt (u:Value):Prop:=∃ x,u=.int .i64 x
def IB (g:Nat) (w:World) (b T M:Nat):Prop:=b≠g/\∃ xs:Array Value,w.heap[b]?=some (.cells xs T (0,0))/\xs.size=M/\∀ u ∈ xs.toList,Jt u
def Mon (g:Nat) (w w':World):Prop:=∀ b T M,IB g w b T M->IB g w' b T M
def ok (g z:Nat) (w:World):S1->Value->Prop
 | .any,_=>True
 | .i,v=>Jt v
 | .b,v=>∃ t,v=.bool t
 | .c,v=>v=.pointer (some ⟨g,0,none⟩)
 | .z,v=>v=.slice none 0 0
 | .n lo hi,v=>∃ x:Nat,v=.int .i64 x/\lo<=x/\x<=hi
 | .k t,v=>v=.bool t
 | .f m,v=>∃ xs:Array Value,v=.agg xs/\xs.size=m/\∀ u ∈ xs.toList,Jt u
 | .p o m,v=>∃ b off T M,v=.pointer (some ⟨b,off,none⟩)/\IB g w b T M/\off+m<=M/\(o=true->z<=b)
 | .s m lo hi,v=>∃ A len cap,v=.slice A len cap/\(lo<=len/\len<=hi/\len<=cap)/\(len=0∨∃ b off T M,A=some ⟨b,off,none⟩/\IB g w b T M/\off+len*m<=M)
 | .o e m lo hi,v=>∃ A len cap,v=.slice A len cap/\(lo<=len/\len<=hi/\len<=cap)/\(A=none/\cap=0∨∃ b,A=some ⟨b,0,none⟩/\z<=b/\cap<=maxLen/\IB g w b e (cap*m))
 | .t2 x y,v=>∃ a b,v=.tuple #[a,b]/\ok g z w x a/\ok g z w y b
 | .t3 x y u,v=>∃ a b c,v=.tuple #[a,b,c]/\ok g z w x a/\ok g z w y b/\ok g z w u c
theorem iM {g z:Nat} {w w':World} (h:Mon g w w'):∀ (s:S1) (v:Value),ok g z w s v->ok g z w' s v
 | .any,_,q | .i,_,q | .b,_,q | .c,_,q | .z,_,q | .n _ _,_,q | .k _,_,q | .f _,_,q=>q
 | .p _ _,_,⟨b,off,T,M,e,h1,h2⟩=>⟨b,off,T,M,e,h _ _ _ h1,h2⟩
 | .s _ _ _,_,⟨A,l,c,e,h1,h2⟩=>⟨A,l,c,e,h1,h2.imp id fun ⟨b,off,T,M,e,h1,h2⟩=>⟨b,off,T,M,e,h _ _ _ h1,h2⟩⟩
 | .o _ _ _ _,_,⟨A,l,c,e,h1,h2⟩=>⟨A,l,c,e,h1,h2.imp id fun ⟨b,e,h0,h1,h2⟩=>⟨b,e,h0,h1,h _ _ _ h2⟩⟩
 | .t2 x y,_,⟨a,b,e,h1,h2⟩=>⟨a,b,e,iM h x a h1,iM h y b h2⟩
 | .t3 x y u,_,⟨a,b,c,e,h1,h2,h3⟩=>⟨a,b,c,e,iM h x a h1,iM h y b h2,iM h u c h3⟩
theorem jR {g z z':Nat} {w:World} (h:z'<=z):∀ (s:S1) (v:Value),ok g z w s v->ok g z' w s v
 | .any,_,q | .i,_,q | .b,_,q | .c,_,q | .z,_,q | .n _ _,_,q | .k _,_,q | .f _,_,q | .s _ _ _,_,q=>q
 | .p _ _,_,⟨b,off,T,M,e,h1,h2,h3⟩=>⟨b,off,T,M,e,h1,h2,fun k=>Nat.le_trans h (h3 k)⟩
 | .o _ _ _ _,_,⟨A,l,c,e,h1,h2⟩=>⟨A,l,c,e,h1,h2.imp id fun ⟨b,e,h0,h1⟩=>⟨b,e,Nat.le_trans h h0,h1⟩⟩
 | .t2 x y,_,⟨a,b,e,h1,h2⟩=>⟨a,b,e,jR h x a h1,jR h y b h2⟩
 | .t3 x y u,_,⟨a,b,c,e,h1,h2,h3⟩=>⟨a,b,c,e,jR h x a h1,jR h y b h2,jR h u c h3⟩
def le:S1->S1->Bool
 | _,.any=>true
 | .i,.i | .b,.b | .c,.c | .z,.z | .n _ _,.i | .k _,.b=>true
 | .n a b,.n c d=>Nat.ble c a && Nat.ble b d
 | .k a,.k b=>a == b
 | .f a,.f b=>Nat.beq a b
 | .p a x,.p b y=>(!b || a) && Nat.ble y x
 | .s m a b,.s k c d=>Nat.beq m k && (Nat.ble c a && Nat.ble b d)
 | .o _ m a b,.s k c d=>Nat.beq m k && (Nat.ble c a && Nat.ble b d)
 | .o e m a b,.o f k c d=>Nat.beq e f && (Nat.beq m k && (Nat.ble c a && Nat.ble b d))
 | .z,.s _ c _=>Nat.beq c 0
 | .z,.o _ _ c _=>Nat.beq c 0
 | .t2 a d,.t2 e g=>le a e && le d g
 | .t3 a d x,.t3 e g y=>le a e && (le d g && le x y)
 | _,_=>false
theorem le_refl (s:S1):le s s=true:=by induction s <;> simp_all [le,Nat.beq_refl]
theorem i7 {g z:Nat} {w:World}:∀ (s s':S1) (v:Value),le s s'=true->ok g z w s v->ok g z w s' v:=by
 intro s
 induction s with
 | any=>intro s' v h q;cases s' <;> first | exact trivial | cases h
 | i=>intro s' v h q;cases s' <;> first | exact q | exact trivial | cases h
 | b=>intro s' v h q;cases s' <;> first | exact q | exact trivial | cases h
 | c=>intro s' v h q;cases s' <;> first | exact q | exact trivial | cases h
 | z=>
  intro s' v h q
  cases s' with
  | any=>trivial
  | z=>exact q
  | s m a b=>
   have:a=0:=Nat.eq_of_beq_eq_true h;exact ⟨none,0,0,q,⟨ω,Nat.zero_le _,IY _⟩,.inl rfl⟩
  | o e m a b=>
   have:a=0:=Nat.eq_of_beq_eq_true h;exact ⟨none,0,0,q,⟨ω,Nat.zero_le _,IY _⟩,.inl ⟨rfl,rfl⟩⟩
  | _=>cases h
 | n lo hi=>
  intro s' v h q
  cases s' with
  | any=>trivial
  | i=>obtain ⟨x,e,-⟩:=q;exact ⟨_,e⟩
  | n a b=>
   simp only [le,Bool.and_eq_true,Nat.ble_eq] at h;obtain ⟨x,e,h1,h2⟩:=q;exact ⟨x,e,ω,ω⟩
  | _=>cases h
 | k t=>
  intro s' v h q
  cases s' with
  | any=>trivial
  | b=>exact ⟨t,q⟩
  | k t'=>simp only [le,beq_iff_eq] at h;subst h;exact q
  | _=>cases h
 | f m=>
  intro s' v h q
  cases s' with
  | any=>trivial
  | f k=>have:m=k:=Nat.eq_of_beq_eq_true h;subst this;exact q
  | _=>cases h
 | p o m=>
  intro s' v h q
  cases s' with
  | any=>trivial
  | p o' k=>
   simp only [le,Bool.and_eq_true,Nat.ble_eq] at h;obtain ⟨b,off,T,M,e,h1,h2,h3⟩:=q;refine ⟨b,off,T,M,e,h1,ω,fun k=>h3 ?_⟩;have h4:=h.1;rw [k] at h4
   simpa using h4
  | _=>cases h
 | s m lo hi=>
  intro s' v h q
  cases s' with
  | any=>trivial
  | s k a b=>
   simp only [le,Bool.and_eq_true,Nat.ble_eq] at h;have:m=k:=Nat.eq_of_beq_eq_true h.1;subst this;obtain ⟨A,l,c,e,h1,h2⟩:=q;exact ⟨A,l,c,e,ω,h2⟩
  | _=>cases h
 | o e m lo hi=>
  intro s' v h q
  cases s' with
  | any=>trivial
  | s k a b=>
   simp only [le,Bool.and_eq_true,Nat.ble_eq] at h;have:m=k:=Nat.eq_of_beq_eq_true h.1;subst this;obtain ⟨A,l,c,e,h1,h2⟩:=q;refine ⟨A,l,c,e,ω,?_⟩
   rcases h2 with ⟨h2,h3⟩ | ⟨b,h2,h3,h4,h5⟩
   ·exact .inl ω
   exact .inr ⟨b,0,_,_,h2,h5,by rw [Nat.zero_add];exact Nat.mul_le_mul_right m h1.2.2⟩
  | o e' k a b=>
   simp only [le,Bool.and_eq_true,Nat.ble_eq] at h;have h1:e=e':=Nat.eq_of_beq_eq_true h.1;have h2:m=k:=Nat.eq_of_beq_eq_true h.2.1;subst h1 h2;obtain ⟨A,l,c,e,h1,h2⟩:=q;exact ⟨A,l,c,e,ω,h2⟩
  | _=>cases h
 | t2 x y ix iy=>
  intro s' v h q
  cases s' with
  | any=>trivial
  | t2 x' y'=>
   simp only [le,Bool.and_eq_true] at h;obtain ⟨a,b,e,h1,h2⟩:=q;exact ⟨a,b,e,ix _ _ h.1 h1,iy _ _ h.2 h2⟩
  | _=>cases h
 | t3 x y u ix iy iu=>
 intro s' v h q
 cases s' with
 | any=>trivial
 | t3 x' y' u'=>
  simp only [le,Bool.and_eq_true] at h;obtain ⟨a,b,c,e,h1,h2,h3⟩:=q;exact ⟨a,b,c,e,ix _ _ h.1 h1,iy _ _ h.2.1 h2,iu _ _ h.2.2 h3⟩
 | _=>cases h
theorem Mon.refl (g:Nat) (w:World):Mon g w w:=fun _ _ _ h=>h
theorem Mon.trans {g:Nat} {a b c:World} (h:Mon g a b) (k:Mon g b c):Mon g a c:=fun _ _ _ q=>k _ _ _ (h _ _ _ q)
theorem IB.lt {g b T M:Nat} {w:World} (h:IB g w b T M):b<w.heap.size:=by
 obtain ⟨-,xs,h,-⟩:=h;exact (Array.getElem?_eq_some_iff.1 h).1
theorem Mon.grown {g:Nat} {w w':World} (h:w.grownBy w' (some g)):Mon g w w':=fun b T M q=>by
 have hl:=q.lt;obtain ⟨hn,xs,h1,h2⟩:=q;exact ⟨hn,xs,(h.block b hl (by simpa using hn)).trans h1,h2⟩
theorem Mon.alloc (g:Nat) (w:World) (o:Obj):Mon g w (w.alloc o):=.grown (w.grownBy_alloc o _)
theorem Mon.row {g b T M:Nat} {w:World} (h:IB g w b T M) {ys:Array Value} (hs:ys.size=M) (hi:∀ u ∈ ys.toList,Jt u):Mon g w (w.setRow b ys):=fun b' T' M' q=>by
 obtain ⟨hn,xs,h1,h2,h3⟩:=h;obtain ⟨hn',xs',h1',h2',h3'⟩:=q
 by_cases e:b'=b
 ·subst e
  rw [h1] at h1'
  injection h1' with h1'
  injection h1' with e1 e2 e3
  subst e1 e2;exact ⟨hn,ys,setRow_heap w b' xs ys T _ h1,ω,hi⟩
 exact ⟨hn',xs',(setRow_other w b b' ys e).trans h1',h2',h3'⟩
structure Wd (w0:World) (g B n:Nat) (v:Value) (K:Nat) (w:World):Prop where
 cur:dQ w g B v n K
 gr:w0.grownBy w (some g)
 lt:B<=w0.heap.size
theorem Wd.up {w0 w:World} {g B n K K':Nat} {v:Value} (h:Wd w0 g B n v K w) (hK:K<=K'):Wd w0 g B n v K' w:=⟨h.cur.mono hK,h.gr,h.lt⟩
theorem Wd.call {w0 w w':World} {g B n K K':Nat} {v:Value} (h:Wd w0 g B n v K w) (hc:dQ w' g B v n K') (hg:w.grownBy w' (some g)):Wd w0 g B n v K' w':=⟨hc,h.gr.trans hg,h.lt⟩
theorem Wd.below {w0 w w':World} {g B n K:Nat} {v:Value} (h:Wd w0 g B n v K w) (hb:Below w w w'):Wd w0 g B n v K w':=h.call (h.cur.keep hb) (bO hb _)
theorem Wd.alloc {w0 w:World} {g B n K:Nat} {v:Value} (h:Wd w0 g B n v K w) (o:Obj):Wd w0 g B n v K (w.alloc o):=h.below (((IX _ _).alloc (IY _) o))
theorem Wd.drew {w0 w:World} {g B n K:Nat} {v:Value} (h:Wd w0 g B n v K w):Wd w0 g B n v K w.drew:=h.below (IX _ _).drew
theorem Wd.row {w0 w:World} {g B n K b T M:Nat} {v:Value} (h:Wd w0 g B n v K w) (q:IB g w b T M) (hz:w0.heap.size<=b) (ys:Array Value):Wd w0 g B n v K (w.setRow b ys):=by
 obtain ⟨hn,xs,h1,-⟩:=q;have hl:=h.lt
 have hg:w.grownBy (w.setRow b ys) (some b):=⟨rfl,rfl,rfl,by simp [World.setRow],fun k _ hk=>setRow_other w b k ys (by simpa using hk)⟩
 refine ⟨h.cur.keepR hg (Ne.symm hn) ω,⟨hg.os.trans h.gr.os,hg.tape.trans h.gr.tape,hg.output.trans h.gr.output,Nat.le_trans h.gr.size hg.size,fun k hk hne=>?_⟩,hl⟩;exact (hg.block k (Nat.lt_of_lt_of_le hk h.gr.size) (by intro e;injection e with e;omega)).trans (h.gr.block k hk hne)
end Dw
end
section
open Go Go.RowKit open Dw Gr M Rg
namespace Dw
def dL (P:Program) (t m:Nat):Prop:=∃ i z,P.info? t=some i/\i.zero=some z/\i.size=m/\i.bytes<=1000/\0<m/\z.cells=Array.replicate m (.int .i64 0)/\
 ((m=1/\∃ q,P.underlying t=some (.int q))∨∃ fs,P.underlying t=some (.struct fs)/\2<=m/\fs.size=m/\∀ (j:Nat) f,fs[j]?=some f->f.offset=j/\∃ i',P.info? f.type=some i'/\i'.size=1)
def fv (m:Nat):S1:=bif Nat.beq m 1 then .i else .f m
theorem Jt.one {u:Value} (h:Jt u):u.oneCell'=true:=by obtain ⟨x,rfl⟩:=h;rfl
theorem Jt.cells {u:Value} (h:Jt u):u.cells=#[u]:=by obtain ⟨x,rfl⟩:=h;rfl
theorem s8 {g z m:Nat} {w:World} {v:Value} (h:ok g z w (fv m) v):v.cells.size=m/\∀ u ∈ v.cells.toList,Jt u:=by
 unfold fv at h
 cases e:Nat.beq m 1 with
 | true=>
  rw [e] at h;have h:Jt v:=h;have:=Nat.eq_of_beq_eq_true e;rw [h.cells];refine ⟨by rw [this];rfl,fun u hu=>?_⟩;simp only [List.mem_singleton] at hu;subst hu;exact h
 | false=>
 rw [e] at h;obtain ⟨xs,rfl,h1,h2⟩:=h;exact ⟨h1,h2⟩
variable {P:Program} {g z t m:Nat} {w:World}
theorem FI {u:Value} {m:Nat} (h:u ∈ (Array.replicate m (Value.int .i64 0)).toList):Jt u:=by
 rw [Array.toList_replicate] at h;exact ⟨0,(List.mem_replicate.1 h).2⟩
theorem yn (hT:dL P t m) (hg:g≠w.heap.size) (hz:z<=w.heap.size):∃ v w',(Instr.alloc t true (.tuple #[])).run P w=.ok v w'/\(∃ o,w'=w.alloc o)/\ok g z w' (.p true m) v:=by
 obtain ⟨i,y,h1,h2,h3,-,-,h4,-⟩:=hT;refine ⟨.pointer (some ⟨w,0,none⟩),w.alloc (.cells y.cells t),?_,⟨_,rfl⟩,w,0,t,m,rfl,⟨Ne.symm hg,y.cells,heap_alloc_new w _,by rw [h4];simp,fun u hu=>FI (h4 ▸ hu)⟩,ω,fun _=>hz⟩;simp [Instr.alloc,zeroValue,typeInfo,h1,h2,newVar,newRow]
theorem IB.part {b T M off n:Nat} (h:IB g w b T M) (hl:off+n<=M):∃ cs:List Value,cs.length=n/\(∀ u ∈ cs,Jt u)/\∀ j v,cs[j]?=some v->w.cell? ((⟨b,off,none⟩:Addr).add j)=some v:=by
 obtain ⟨-,xs,h1,h2,h3⟩:=h;refine ⟨(xs.toList.drop off).take n,by simp;omega,fun u hu=>h3 u (List.mem_of_mem_drop (List.mem_of_mem_take hu)),fun j v hj=>?_⟩;rw [show (⟨b,off,none⟩:Addr).add j=⟨b,off+j,none⟩ by unfold Addr.add;split <;> simp_all,cell_of_row _ _ _ xs T (0,0) h1];rw [List.getElem?_take] at hj
 split at hj
 ·rw [List.getElem?_drop] at hj
  simpa using hj
 cases hj
theorem tw {o:Bool} {k:Nat} {v:Value} (hT:dL P t m) (h:ok g z w (.p o k) v) (hk:m<=k):∃ u,(Instr.loadAt t v).run P w=.ok u w/\ok g z w (fv m) u:=by
 obtain ⟨i,y,h1,-,h3,-,-,-,h4⟩:=hT;obtain ⟨b,off,T,M,rfl,hb,hl,-⟩:=h;obtain ⟨cs,c1,c2,c3⟩:=hb.part (n:=m) (show off+m<=M by omega)
 rcases h4 with ⟨rfl,q,hu⟩ | ⟨fs,hu,hm,-⟩
 ·obtain ⟨c,rfl⟩:∃ c,cs=[c]:=List.length_eq_one_iff.1 c1
  refine ⟨c,?_,c2 c σ⟩;have:=c3 0 c rfl;rw [show (⟨b,off,none⟩:Addr).add 0=⟨b,off,none⟩ from rfl] at this;simp [Instr.loadAt,Instr.sureAddr,loadVar,isAgg,run_underlying hu,this]
 refine ⟨.agg cs.toArray,?_,?_⟩
 ·have:=run_loadCells_list (P:=P) w ⟨b,off,none⟩ cs c3
  simp [Instr.loadAt,Instr.sureAddr,loadVar,isAgg,run_underlying hu,sizeOf,typeInfo,h1,h3,←c1,this]
 unfold fv
 have e:Nat.beq m 1=false:=by rw [Bool.eq_false_iff];intro e;have:=Nat.eq_of_beq_eq_true e;omega
 rw [e];exact ⟨cs.toArray,rfl,by simp [c1],fun u hu=>c2 u (by simpa using hu)⟩
theorem yp {k K B n:Nat} {v u vc:Value} {w0:World} (hT:dL P t m) (h:ok g w0 w (.p true k) v) (hk:m<=k) (hu:ok g z w (fv m) u) (hw:Wd w0 g B n vc K w):∃ w',(Instr.storeAt t v u).run P w=.ok () w'/\Wd w0 g B n vc K w'/\Mon g w w':=by
 obtain ⟨i,y,h1,-,h3,-⟩:=hT;obtain ⟨b,off,T,M,rfl,hb,hl,hz⟩:=h;obtain ⟨c1,c2⟩:=s8 hu;obtain ⟨hn,xs,k1,k2,k3⟩:=id hb;have hs:=run_storeCells_at P b off T u.cells.toList 0 xs w k1 (by simp [c1];omega) (fun v hv=>(c2 v hv).one);refine ⟨w.setRow b (xs.toList.take (off+0) ++ u.cells.toList ++ xs.toList.drop (off+0+u.cells.toList.length)).toArray,?_,hw.row hb (hz rfl) _,Mon.row hb ?_ ?_⟩
 ·simp [Instr.storeAt,Instr.sureAddr,storeVar,sizeOf,typeInfo,h1,h3,c1] at hs ⊢
  exact hs
 ·simp [c1];omega
 intro x hx;simp only [List.mem_append,Nat.add_zero] at hx
 rcases hx with (hx | hx) | hx
 ·exact k3 x (List.mem_of_mem_take hx)
 ·exact c2 x hx
 exact k3 x (List.mem_of_mem_drop hx)
theorem yo {o:Bool} {k f:Nat} {v:Value} (hT:dL P t m) (hm:2<=m) (h:ok g z w (.p o k) v) (hf:f<m) (hk:m<=k):∃ u,(Instr.fieldAt t v f).run P w=.ok u w/\ok g z w (.p o (k - f)) u:=by
 obtain ⟨i,y,h1,-,h3,-,-,-,h4⟩:=hT;obtain ⟨b,off,T,M,rfl,hb,hl,hz⟩:=h
 rcases h4 with ⟨rfl,-⟩ | ⟨fs,hu,-,hs,hfs⟩
 ·omega
 obtain ⟨fd,hfd⟩:∃ fd,fs[f]?=some fd:=⟨_,Array.getElem?_eq_getElem ω⟩
 obtain ⟨e,i',e1,e2⟩:=hfs f fd hfd;refine ⟨.pointer (some ⟨b,off+f,none⟩),?_,b,off+f,T,M,rfl,hb,ω,hz⟩
 have ha:(⟨b,off,none⟩:Addr).add f=⟨b,off+f,none⟩:=by unfold Addr.add;split <;> simp_all
 simp [Instr.fieldAt,Instr.sureAddr,run_underlying hu,hfd,fieldPlace,sizeOf,typeInfo,e1,e2,e,ha]
end Dw
namespace Dw
variable {P:Program} {g z t e m lo hi:Nat} {w:World}
theorem Fj (b o n:Nat):(⟨b,o,none⟩:Addr).add n=⟨b,o+n,none⟩:=by unfold Addr.add;split <;> simp_all
theorem dL.size (hT:dL P t m):(sizeOf t).run P w=.ok m w:=by
 obtain ⟨i,y,h1,-,h3,-⟩:=hT;simp [sizeOf,typeInfo,h1,h3]
theorem oW {x l m M off:Nat} (h:off+l*m<=M) (hx:x<l):off+x*m+m<=M:=by
 have:=Nat.mul_le_mul_right m (show x+1<=l by omega);rw [Nat.succ_mul] at this;omega
theorem vP {a b:Nat} {v u:Value} (hs:P.underlying t=some (.slice e)) (hT:dL P e m) (h:ok g z w (.s m lo hi) v) (hu:ok g z w (.n a b) u) (hb:b<lo):∃ p,(Instr.indexAt t v u).run P w=.ok p w/\ok g z w (.p false m) p:=by
 obtain ⟨A,l,c,rfl,h1,h2⟩:=h;obtain ⟨x,rfl,h3,h4⟩:=hu
 rcases h2 with h2 | ⟨b',off,T,M,rfl,h5,h6⟩
 ·omega
 have hl:(x:Int)<(l:Int):=ω
 refine ⟨.pointer (some ⟨b',off+x*m,none⟩),?_,b',_,T,M,rfl,h5,oW h6 ω,fun h=>by cases h⟩;simp [Instr.indexAt,run_underlying hs,hT.size,Fj,asIntOf]
 intro _;omega
theorem vO {a b:Nat} {v u:Value} (hs:P.underlying t=some (.slice e)) (hT:dL P e m) (h:ok g z w (.o e m lo hi) v) (hu:ok g z w (.n a b) u) (hb:b<lo):∃ p,(Instr.indexAt t v u).run P w=.ok p w/\ok g z w (.p true m) p:=by
 obtain ⟨A,l,c,rfl,h1,h2⟩:=h;obtain ⟨x,rfl,h3,h4⟩:=hu
 rcases h2 with h2 | ⟨b',rfl,h5,h6,h7⟩
 ·omega
 have hl:(x:Int)<(l:Int):=ω
 refine ⟨.pointer (some ⟨b',0+x*m,none⟩),?_,b',_,e,_,rfl,h7,oW (l:=c) ω ω,fun _=>h5⟩;simp [Instr.indexAt,run_underlying hs,hT.size,Fj,asIntOf]
 intro _;omega
theorem t8 {a b:Nat} {v u:Value} (hs:P.underlying t=some (.slice e)) (hT:dL P e m) (h:ok g z w (.o e m lo hi) v) (hu:ok g z w (.n a b) u) (hb:b<=lo):∃ p,(Instr.sliceAt t v none (some u) none).run P w=.ok p w/\ok g z w (.o e m a b) p:=by
 obtain ⟨A,l,c,rfl,h1,h2⟩:=h;obtain ⟨x,rfl,h3,h4⟩:=hu
 have hl:(x:Int)<=(c:Int):=ω
 refine ⟨.slice A x c,?_,A,x,c,rfl,ω,h2⟩
 have hA:A.map (fun a=>a.add 0)=A:=by cases A <;> rfl
 simp [Instr.sliceAt,Instr.slice,Instr.sliceBounds,Instr.sliceBound,run_underlying hs,hT.size,hA,asIntOf]
 intro _;omega
theorem uA {a b:Nat} {v u:Value} (hs:P.underlying t=some (.slice e)) (hT:dL P e m) (h:ok g z w (.o e m lo hi) v) (hu:ok g z w (.n a b) u) (hb:b<=lo):∃ p,(Instr.sliceAt t v (some u) none none).run P w=.ok p w/\ok g z w (.s m (lo - b) (hi - a)) p:=by
 obtain ⟨A,l,c,rfl,h1,h2⟩:=h;obtain ⟨x,rfl,h3,h4⟩:=hu
 have hl:(x:Int)<=(l:Int):=ω
 refine ⟨.slice (if c=x then A else A.map fun a=>a.add (x*m)) (l - x) (c - x),?_,_,_,_,rfl,ω,?_⟩
 ·simp [Instr.sliceAt,Instr.slice,Instr.sliceBounds,Instr.sliceBound,run_underlying hs,hT.size,asIntOf]
  intro _;omega
 by_cases hc:c=x
 ·exact .inl ω
 rcases h2 with ⟨-,h2⟩ | ⟨b',rfl,h5,h6,h7⟩
 ·exact .inl ω
 refine .inr ⟨b',0+x*m,e,_,by rw [if_neg hc,Option.map_some,Fj],h7,?_⟩;rw [Nat.zero_add,←Nat.add_mul];exact Nat.mul_le_mul_right m ω
theorem ET {ty:TypeId} {v:Value} (hs:P.underlying t=some (.slice e)) {A:Option Addr} {l c:Nat} (h:v=.slice A l c):(Builtin.len_ #[t] ty #[v]).run P w=.ok (.int .i64 l) w:=by
 subst h;simp [Builtin.len_,run_underlying hs,goInt]
theorem CV {v:Value} (h:ok g z w (.s m lo hi) v) (h0:1<=lo):∃ (ad:Addr) (l c:Nat) (news:List Value),v=.slice (some ad) l c/\lo<=l/\l<=hi/\news.length=l*m/\(∀ u ∈ news,Jt u)/\∀ j u,news[j]?=some u->w.cell? (ad.add j)=some u:=by
 obtain ⟨A,l,c,rfl,h1,h2⟩:=h
 rcases h2 with h2 | ⟨b,off,T,M,rfl,h5,h6⟩
 ·omega
 obtain ⟨cs,c1,c2,c3⟩:=h5.part h6;exact ⟨_,l,c,cs,rfl,ω,ω,c1,c2,c3⟩
theorem Gy {n:Nat} {u:Value} (h:u ∈ (Builtin.zeroCells (Array.replicate m (.int .i64 0)) n).toList) (hm:0<m):Jt u:=by
 unfold Builtin.zeroCells at h;obtain ⟨i,-,rfl⟩:=Array.mem_map.1 (Array.mem_toList_iff.1 h);rw [getElem!_pos _ _ (by have:=Nat.mod_lt i (show 0<(Array.replicate m (Value.int .i64 0)).size by simpa using hm);exact this),Array.getElem_replicate];exact ⟨0,rfl⟩
theorem vM {lo' hi' K B n:Nat} {v u vc:Value} {w0:World} {ty:TypeId} (hs:P.underlying t=some (.slice e)) (hT:dL P e m) (h:ok g w0 w (.o e m lo hi) v) (hu:ok g w0 w (.s m lo' hi') u) (h0:1<=lo') (h1:hi+hi'<=1000) (hw:Wd w0 g B n vc K w) :
  ∃ x w',(Builtin.append_ #[t,t] ty #[v,u]).run P w=.ok x w'/\ok g w0 w' (.o e m (lo+lo') (hi+hi')) x/\Wd w0 g B n vc K w'/\Mon g w w':=by
 obtain ⟨i,y,hi1,hi2,hi3,hi4,hi5,hi6,-⟩:=id hT;obtain ⟨ad,k,c',news,rfl,k1,k2,k3,k4,k5⟩:=CV hu h0;have hle:=hw.gr.size;have hlt:=hw.cur.size
 have ho:∀ u ∈ news,u.oneCell'=true:=fun u hu=>(k4 u hu).one
 rw [←hi3] at k3;obtain ⟨A,l,c,rfl,l1,l2⟩:=h
 have new:∀ (olds:List Value) (N:Nat),olds.length=l*m->(∀ u ∈ olds,Jt u)->l+k<=N->N<=maxLen->
   ok g w0 (w.drew.alloc (.cells (olds.toArray ++ news.toArray ++ Builtin.zeroCells y.cells (N - (l+k))) e)) (.o e m (lo+lo') (hi+hi')) (.slice (some ⟨w,0,none⟩) (l+k) N)/\
   Wd w0 g B n vc K (w.drew.alloc (.cells (olds.toArray ++ news.toArray ++ Builtin.zeroCells y.cells (N - (l+k))) e))/\Mon g w (w.drew.alloc (.cells (olds.toArray ++ news.toArray ++ Builtin.zeroCells y.cells (N - (l+k))) e)):=by
  intro olds N q1 q2 q3 q4;refine ⟨⟨_,_,_,rfl,ω,.inr ⟨_,rfl,hle,q4,⟨ω,_,heap_alloc_new w.drew _,?_,?_⟩⟩⟩,hw.drew.alloc _,(Mon.alloc g w.drew _)⟩
  ·rw [hi6]
   simp only [Array.size_append,List.size_toArray,size_zeroCells,Array.size_replicate,q1,k3,hi3,←Nat.add_mul]
   congr 1
   omega
  intro x hx;simp only [Array.toList_append,List.mem_append] at hx
  rcases hx with (hx | hx) | hx
  ·exact q2 x hx
  ·exact k4 x hx
  rw [hi6] at hx;exact Gy hx hi5
 have hb:(l+k)*i.bytes<=140737488355328:=by
  have:=Nat.mul_le_mul (show l+k<=1000 by omega) hi4;omega
 rcases l2 with ⟨rfl,rfl⟩ | ⟨b,rfl,hz,hc,hI⟩
 ·obtain rfl:l=0:=ω
  have hr:=run_append_nil (P:=P) w t ty e i y hs hi1 hi2 ad k c' news k3 k5 ω ω (by rw [Nat.zero_add] at hb;omega);have:=new [] (grownCap w k 0 e) σ σ (by have:=grownCap_ge w k 0 e;omega) (grownCap_le_maxLen w k 0 e (by unfold maxLen;omega));simp only [Nat.zero_add,Array.empty_append] at this;exact ⟨_,_,hr,this⟩
 obtain ⟨hn,xs,x1,x2,x3⟩:=id hI
 by_cases hroom:l+k<=c
 ·have hfit:l*i.size+news.length<=xs.size:=by rw [k3,hi3,x2,←Nat.add_mul];exact Nat.mul_le_mul_right _ hroom
  have hr:=run_append_room (P:=P) w t ty e i hs hi1 b l c xs x1 ad k c' news k3 k5 ho hroom hfit
  have hrow:Mon g w (w.setRow b (xs.toList.take (l*i.size) ++ news ++ xs.toList.drop (l*i.size+news.length)).toArray):=Mon.row hI (by simp;omega) (by
   intro x hx;simp only [List.mem_append] at hx
   rcases hx with (hx | hx) | hx
   ·exact x3 x (List.mem_of_mem_take hx)
   ·exact k4 x hx
   exact x3 x (List.mem_of_mem_drop hx))
  exact ⟨_,_,hr,⟨_,_,_,rfl,ω,.inr ⟨b,rfl,hz,hc,hrow _ _ _ hI⟩⟩,hw.row hI hz _,hrow⟩
 obtain ⟨cs,c1,c2,c3⟩:=hI.part (off:=0) (n:=l*m) (by rw [Nat.zero_add];exact Nat.mul_le_mul_right m l1.2.2);have hr:=run_append_grow (P:=P) w t ty e i y hs hi1 hi2 ⟨b,0,none⟩ l c cs (by rw [c1,hi3]) c3 ad k c' news k3 k5 ω ω (growslice_fits ω hb);exact ⟨_,_,hr,new cs _ c1 c2 (grownCap_ge w (l+k) c e) (grownCap_le_maxLen w (l+k) c e (by unfold maxLen;omega))⟩
theorem ue {m N:Nat}:∀ (ps:List (Nat × Value)) (cs:Array Value),cs.size=N*m->(∀ u ∈ cs.toList,Jt u)->(∀ q ∈ ps,q.1<N/\q.2.cells.size=m/\∀ u ∈ q.2.cells.toList,Jt u)->∃ ds,Instr.fill (fun i=>if i<N then some (i*m,m) else none) cs ps=some ds/\ds.size=N*m/\∀ u ∈ ds.toList,Jt u
 | [],cs,h1,h2,_=>⟨cs,rfl,h1,h2⟩
 | (i,v) :: ps,cs,h1,h2,h3=>by
  obtain ⟨q1,q2,q3⟩:=h3 (i,v) List.mem_cons_self;have hl:=oW (off:=0) (x:=i) (l:=N) (m:=m) (M:=N*m) ω q1
  have key:∀ (us:List (Value × Nat)) (cs:Array Value),cs.size=N*m->(∀ u ∈ cs.toList,Jt u)->(∀ u ∈ us,Jt u.1)->(us.foldl (fun cs (c:Value × Nat)=>cs.setIfInBounds (i*m+c.2) c.1) cs).size=N*m/\∀ u ∈ (us.foldl (fun cs (c:Value × Nat)=>cs.setIfInBounds (i*m+c.2) c.1) cs).toList,Jt u:=by
   intro us
   induction us with
   | nil=>intro cs h1 h2 _;exact ⟨h1,h2⟩
   | cons u us ih=>
   intro cs h1 h2 h3;rw [List.foldl_cons]
   refine ih _ (by simpa using h1) (fun x hx=>?_) fun x hx=>h3 x (List.mem_cons_of_mem _ hx)
   rw [Array.toList_setIfInBounds] at hx
   rcases List.mem_or_eq_of_mem_set hx with hx | rfl
   ·exact h2 x hx
   exact h3 u List.mem_cons_self
  obtain ⟨k1,k2⟩:=key v.cells.zipIdx.toList cs h1 h2 (fun u hu=>q3 u.1 (by
   obtain ⟨x,n⟩:=u;have:=Array.mem_zipIdx (Array.mem_toList_iff.1 hu)
   exact Array.mem_toList_iff.2 (by rw [this.2.2];exact Array.getElem_mem _)))
  obtain ⟨ds,d1,d2⟩:=ue ps _ k1 k2 fun q hq=>h3 q (List.mem_cons_of_mem _ hq)
  refine ⟨ds,?_,d2⟩;unfold Instr.fill;have q1:i<N:=q1;have q2:v.cells.size=m:=q2;rw [if_pos q1]
  dsimp only
  rw [q2,h1,if_neg (by simp;omega),←Array.foldl_toList];exact d1
theorem bR {p q:Nat->Option (Nat × Nat)}:∀ (ps:List (Nat × Value)) (cs:Array Value),(∀ x ∈ ps,p x.1=q x.1)->Instr.fill p cs ps=Instr.fill q cs ps
 | [],_,_=>rfl
 | (i,v) :: ps,cs,h=>by
  unfold Instr.fill;rw [←h (i,v) List.mem_cons_self]
  cases p i with
  | none=>rfl
  | some r=>
  dsimp only
  split
  ·rfl
  exact bR ps _ fun x hx=>h x (List.mem_cons_of_mem _ hx)
theorem tY (P:Program):∀ (fs:List Field) (k:Nat),(∀ (j:Nat) f,fs[j]?=some f->f.offset=k+j/\∃ i',P.info? f.type=some i'/\i'.size=1)->∃ ps,fs.mapM (fun f=>(P.info? f.type).map fun i=>(f.offset,i.size))=some ps/\∀ j,ps[j]?=if j<fs.length then some (k+j,1) else none
 | [],k,_=>⟨[],rfl,fun j=>rfl⟩
 | f :: fs,k,h=>by
  obtain ⟨e,i',h1,h2⟩:=h 0 f rfl
  obtain ⟨ps,h3,h4⟩:=tY P fs (k+1) fun j f' hj=>by
   have:=h (j+1) f' hj;rw [show k+1+j=k+(j+1) by omega];exact this
  refine ⟨(k,1) :: ps,?_,fun j=>?_⟩
  ·simp [List.mapM_cons,h1,h2,e,h3]
  cases j with
  | zero=>simp
  | succ j=>simp [h4,show k+1+j=k+(j+1) by omega]
theorem run_build (hT:dL P t m) (hm:2<=m) {ps:Array (Nat × Value)} (h:∀ q ∈ ps.toList,q.1<m/\Jt q.2):∃ v,(Instr.build t ps).run P w=.ok v w/\ok g z w (.f m) v:=by
 obtain ⟨i,y,h1,h2,-,-,-,h3,h4⟩:=hT
 rcases h4 with ⟨rfl,-⟩ | ⟨fs,hu,-,hs,hf⟩
 ·omega
 obtain ⟨pl,p1,p2⟩:=tY P fs.toList 0 fun j f hj=>by
  rw [Nat.zero_add];exact hf j f (by rw [←Array.getElem?_toList];exact hj)
 obtain ⟨ds,d1,d2,d3⟩:=ue (m:=1) (N:=m) ps.toList y.cells (by rw [h3];simp) (fun u hu=>FI (h3 ▸ hu)) fun q hq=>⟨(h q hq).1,by rw [(h q hq).2.cells];rfl,by rw [(h q hq).2.cells];intro u hu;simp only [List.mem_singleton] at hu;subst hu;exact (h q hq).2⟩
 refine ⟨.agg ds,Go.run_build w t ps ds ?_,ds,rfl,by rw [d2,Nat.mul_one],d3⟩;unfold Program.built;rw [h1,hu]
 dsimp only
 rw [h2,p1]
 dsimp only
 rw [←d1]
 refine bR _ _ fun x hx=>?_
 have:=(h x hx).1;have e:=p2 x.1;rw [Array.length_toList,hs,if_pos this] at e;rw [if_pos this,Nat.mul_one]
 simpa using e
theorem vN {n:Nat} (hs:P.underlying t=some (.slice e)) (hT:dL P e m) (h1:1<=n) (h2:n<=100) (h3:m<=10) (hz:z<=w.heap.size) (hg:g≠w.heap.size) {ps:Array (Nat × Value)} (h:∀ q ∈ ps.toList,q.1<n/\ok g z w (fv m) q.2):∃ v w',(Instr.buildSlice t n ps).run P w=.ok v w'/\(∃ o,w'=w.alloc o)/\ok g z w' (.o e m n n) v:=by
 obtain ⟨i,y,i1,i2,i3,i4,i5,i6,-⟩:=hT;have hb:=Nat.mul_le_mul h2 h3;have hp:=Nat.mul_pos (show 0<n by omega) i5
 obtain ⟨ds,d1,d2,d3⟩:=ue (m:=m) (N:=n) ps.toList ((Array.range (n*m)).map (y.cells[· % y.cells.size]!)) σ (fun u hu=>by
  obtain ⟨j,-,rfl⟩:=Array.mem_map.1 (Array.mem_toList_iff.1 hu);rw [i6,getElem!_pos _ _ (by simpa using Nat.mod_lt j i5),Array.getElem_replicate]
  exact ⟨0,rfl⟩) fun q hq=>⟨(h q hq).1,s8 (h q hq).2⟩
 refine ⟨_,_,Go.run_buildSlice w t e n ps ds i y hs i1 i2 (by rw [i3];omega) (by rw [i3];omega) ?_,⟨_,rfl⟩,_,n,n,rfl,ω,.inr ⟨_,rfl,hz,by unfold maxLen;omega,Ne.symm hg,ds,heap_alloc_new w _,d2,d3⟩⟩;rw [i3,←d1]
 refine bR _ _ fun x hx=>?_
 rw [if_pos (h x hx).1]
end Dw
namespace Dw
structure Env where
 fl:List (Nat × Nat)
 sl:List (Nat × Nat)
 fn:List (Nat × List S1 × S1 × Nat)
def gj:List (Nat × Nat)->Nat->Option Nat
 | [],_=>none
 | p :: l,t=>bif Nat.beq p.1 t then some p.2 else gj l t
def RJ:List S1->List S1->Bool
 | [],[]=>true
 | a :: l,e :: k=>le a e && RJ l k
 | _,_=>false
def Aq:List (Nat × List S1 × S1 × Nat)->Nat->List S1->Option (S1 × Nat)
 | [],_,_=>none
 | p :: l,f,xs=>bif Nat.beq p.1 f && RJ xs p.2.1 then some p.2.2 else Aq l f xs
def Nc (g z:Nat) (w:World):List S1->List Value->Prop
 | [],[]=>True
 | s :: l,v :: k=>ok g z w s v/\Nc g z w l k
 | _,_=>False
theorem BS {g z:Nat} {w:World}:∀ (l k:List S1) (vs:List Value),RJ l k=true->Nc g z w l vs->Nc g z w k vs
 | [],[],[],_,_=>trivial
 | a :: l,e :: k,v :: vs,h,q=>by
  rw [RJ,Bool.and_eq_true] at h;exact ⟨i7 _ _ _ h.1 q.1,BS l k vs h.2 q.2⟩
 | [],_ :: _,_,h,_=>by cases h
 | _ :: _,[],_,h,_=>by cases h
 | [],[],_ :: _,_,q=>q.elim
 | _ :: _,_ :: _,[],_,q=>q.elim
def iW (P:Program) (f:Nat) (A:List S1) (r:S1) (c:Nat):Prop:=
 (∀ args w,(callFunc f args).run P w=.ok (.enter f args) w)/\
 ∀ (g B n:Nat) (v:Value) (K z:Nat) (w:World) (args:List Value),Nc g z w A args->dQ w g B v n K->K+c<=700000000->
  Calls P f args.toArray w fun e w'=>∃ x,e=.returned x/\ok g w w' r x/\dQ w' g B v n (K+c)/\w.grownBy w' (some g)
structure dF (P:Program) (E:Env):Prop where
 fl:∀ q ∈ E.fl,dL P q.1 q.2
 sl:∀ q ∈ E.sl,P.underlying q.1=some (.slice q.2)
 fn:∀ q ∈ E.fn,iW P q.1 q.2.1 q.2.2.1 q.2.2.2
theorem bc {l:List (Nat × Nat)} {t m:Nat} (h:gj l t=some m):(t,m) ∈ l:=by
 induction l with
 | nil=>cases h
 | cons p l ih=>
 unfold gj at h
 cases e:Nat.beq p.1 t with
 | true=>
  rw [e] at h;have:=Nat.eq_of_beq_eq_true e;obtain ⟨a,b⟩:=p;cases h
  subst this;exact List.mem_cons_self
 | false=>
 rw [e] at h;exact List.mem_cons_of_mem _ (ih h)
theorem Ar {l:List (Nat × List S1 × S1 × Nat)} {f:Nat} {xs:List S1} {r:S1 × Nat} (h:Aq l f xs=some r):∃ A,(f,A,r) ∈ l/\RJ xs A=true:=by
 induction l with
 | nil=>cases h
 | cons p l ih=>
 unfold Aq at h
 cases e:Nat.beq p.1 f && RJ xs p.2.1 with
 | true=>
  rw [e] at h;rw [Bool.and_eq_true] at e;have:=Nat.eq_of_beq_eq_true e.1;obtain ⟨a,b,c⟩:=p;cases h
  subst this;exact ⟨b,List.mem_cons_self,e.2⟩
 | false=>
 rw [e] at h;obtain ⟨A,h1,h2⟩:=ih h;exact ⟨A,List.mem_cons_of_mem _ h1,h2⟩
def cS:Value->S1
 | .int .i64 (.ofNat k)=>.n k k
 | .int .i64 (.negSucc _)=>.i
 | .bool t=>.k t
 | .slice none 0 0=>.z
 | _=>.any
theorem Ez (g z:Nat) (w:World) (v:Value):ok g z w (cS v) v:=by
 unfold cS
 split
 ·exact ⟨_,rfl,IY _,IY _⟩
 ·exact ⟨_,rfl⟩
 ·rfl
 ·rfl
 trivial
def Fn (op:BinOp) (x y:S1):Option S1:=match op,x,y with
 | .add,.n a b,.n c d=>some (bif Nat.ble (b+d) 1000000 then .n (a+c) (b+d) else .i)
 | .lss,.n a b,.n c d=>some (bif Nat.blt b c then .k true else bif Nat.ble d a then .k false else .b)
 | .gtr,.n a b,.n c d=>some (bif Nat.blt d a then .k true else bif Nat.ble b c then .k false else .b)
 | .add,_,_ | .sub,_,_ | .mul,_,_=>bif le x .i && le y .i then some .i else none
 | .eql,_,_ | .lss,_,_ | .gtr,_,_ | .leq,_,_=>bif le x .i && le y .i then some .b else none
 | _,_,_=>none
def Dr (e m:Nat) (s:S1):S1:=match s with
 | .z=>.o e m 0 0
 | s=>s
def Sy (E:Env) (ρ:Operand->S1) (o:Op):Option (S1 × Nat):=match o with
 | .move x | .assign x=>some (ρ x,0)
 | .pick c a b=>match ρ c with
  | .k t=>some (bif t then ρ a else ρ b,0)
  | _=>none
 | .alloc t=>(gj E.fl t).bind fun m=>some (.p true m,0)
 | .build t ps=>(gj E.fl t).bind fun m=>bif Nat.ble 2 m && ps.toList.all fun q=>Nat.blt q.1 m && le (ρ q.2) .i then some (.f m,0) else none
 | .buildSlice t n ps=>(gj E.sl t).bind fun e=>(gj E.fl e).bind fun m=>bif Nat.ble 1 n && (Nat.ble n 100 && (Nat.ble m 10 && ps.toList.all fun q=>Nat.blt q.1 n && le (ρ q.2) (fv m))) then some (.o e m n n,0) else none
 | .load t a=>(gj E.fl t).bind fun m=>match ρ a with
  | .p _ k=>bif Nat.ble m k then some (fv m,0) else none
  | _=>none
 | .store t a v=>(gj E.fl t).bind fun m=>match ρ a with
  | .p true k=>bif Nat.ble m k && le (ρ v) (fv m) then some (.any,0) else none
  | _=>none
 | .fieldAddr t x f=>(gj E.fl t).bind fun m=>match ρ x with
  | .p o k=>bif Nat.ble 2 m && (Nat.blt f m && Nat.ble m k) then some (.p o (k - f),0) else none
  | _=>none
 | .indexAddr t x i=>(gj E.sl t).bind fun e=>(gj E.fl e).bind fun m=>match ρ x,ρ i with
  | .s k lo _,.n _ b=>bif Nat.beq k m && Nat.blt b lo then some (.p false m,0) else none
  | .o d k lo _,.n _ b=>bif Nat.beq d e && (Nat.beq k m && Nat.blt b lo) then some (.p true m,0) else none
  | _,_=>none
 | .slice t x none (some h) none=>(gj E.sl t).bind fun e=>(gj E.fl e).bind fun m=>match ρ x,ρ h with
  | .o d k lo _,.n a b=>bif Nat.beq d e && (Nat.beq k m && Nat.ble b lo) then some (.o e m a b,0) else none
  | _,_=>none
 | .slice t x (some h) none none=>(gj E.sl t).bind fun e=>(gj E.fl e).bind fun m=>match ρ x,ρ h with
  | .o d k lo hi,.n a b=>bif Nat.beq d e && (Nat.beq k m && Nat.ble b lo) then some (.s m (lo - b) (hi - a),0) else none
  | _,_=>none
 | .extract x j=>match ρ x,j with
  | .t2 a _,0=>some (a,0)
  | .t2 _ d,1=>some (d,0)
  | .t3 a _ _,0=>some (a,0)
  | .t3 _ d _,1=>some (d,0)
  | .t3 _ _ d,2=>some (d,0)
  | _,_=>none
 | .binOp op _ x y _=>(Fn op (ρ x) (ρ y)).bind fun s=>some (s,0)
 | .unOp .not _ x=>match ρ x with
  | .k t=>some (.k !t,0)
  | .b=>some (.b,0)
  | _=>none
 | .call { callee:=.value (.func f),args:=xs,.. }=>Aq E.fn f (xs.toList.map ρ)
 | .call { callee:=.builtin .len,args:=⟨[x]⟩,argTypes:=⟨[t]⟩ }=>(gj E.sl t).bind fun _=>match ρ x with
  | .s _ lo hi | .o _ _ lo hi=>some (.n lo hi,0)
  | .z=>some (.n 0 0,0)
  | _=>none
 | .call { callee:=.builtin .append,args:=⟨[x,y]⟩,argTypes:=⟨[t,u]⟩ }=>(gj E.sl t).bind fun e=>(gj E.fl e).bind fun m=>match Dr e m (ρ x),ρ y with
  | .o d k lo hi,.s j a b | .o d k lo hi,.o _ j a b=>bif Nat.beq t u && (Nat.beq d e && (Nat.beq k m && (Nat.beq j m && (Nat.ble 1 a && Nat.ble (hi+b) 1000)))) then some (.o e m (lo+a) (hi+b),0) else none
  | _,_=>none
 | _=>none
section
variable {P:Program} {Q:Exit->Act->World->Prop} {E:Env} {ρ:Operand->S1} {o:Oper} {a:Act} {w w0:World} {g B n K c:Nat} {vc:Value} {s:S1}
def Gv (w0 w:World) (g B n:Nat) (vc:Value) (K:Nat) (s:S1) (v:Value) (w':World):Prop:=ok g w0 w' s v/\Wd w0 g B n vc K w'/\Mon g w w'
theorem dq {v:Value} (hw:Wd w0 g B n vc K w) (h:(execOp a.eval o).run P w=.ok (.value v) w) (hv:ok g w0 w s v):o.wp P a w (fun a' w'=>∃ v,a'=a.put o.dst v/\Gv w0 w g B n vc (K+0) s v w') Q:=
 gH h ⟨hv,hw,Mon.refl _ _⟩
theorem zW {v:Value} {w':World} (hw:Wd w0 g B n vc K w) (h:(execOp a.eval o).run P w=.ok (.value v) w') (ho:∃ ob,w'=w.alloc ob) (hv:ok g w0 w' s v):o.wp P a w (fun a' w'=>∃ v,a'=a.put o.dst v/\Gv w0 w g B n vc (K+0) s v w') Q:=by
 obtain ⟨ob,rfl⟩:=ho;exact gH h ⟨hv,hw.alloc ob,Mon.alloc _ _ _⟩
theorem IK {K':Value->World->Prop} {w':World} (h:(execOp a.eval o).run P w=.ok .skip w') (hK:K' undef w'):o.wp P a w (fun a' w'=>∃ v,a'=a.put o.dst v/\K' v w') Q:=by
 unfold Oper.wp;rw [h];exact ⟨_,rfl,hK⟩
end
end Dw
namespace Dw
variable {P:Program} {Q:Exit->Act->World->Prop} {E:Env} {ρ:Operand->S1} {o:Oper} {a:Act} {w w0:World} {g B n K c:Nat} {vc:Value} {s:S1}
theorem cI {α:Type} {p:Bool} {x y:α} (h:(bif p then some x else none)=some y):p=true/\x=y:=by
 cases p
 ·cases h
 exact ⟨rfl,Option.some.inj h⟩
theorem iE {a b:Nat} (h:Nat.blt a b=true):a<b:=by rw [Nat.blt_eq] at h;exact h
theorem Gw (n:Nat) (h:n<=1000000):IntKind.i64.wrap (n:Int)=(n:Int):=by
 have hm:(n:Int) % 18446744073709551616=n:=ω
 simp only [IntKind.wrap,IntKind.bits,IntKind.signed,show (2:Int) ^ 64=18446744073709551616 from δ,show (2:Int) ^ (64 - 1)=9223372036854775808 from δ,hm];rw [if_neg];simp
 omega
theorem FX (x:Int):Jt (.int .i64 (IntKind.wrap .i64 x)):=⟨_,rfl⟩
theorem uq {g z:Nat} {w:World} {x:S1} {v:Value} (h:le x .i=true) (q:ok g z w x v):Jt v:=i7 x .i v h q
theorem Fo {z:Nat} {op:BinOp} {x y:S1} {u v:Value} {t:TypeId} (h:Fn op x y=some s) (hx:ok g z w x u) (hy:ok g z w y v):∃ r,(binOp op t u v).run P w=.ok r w/\ok g z w s r/\Jt u/\Jt v:=by
 have gen:le x .i=true->le y .i=true->(∃ b d:Int,u=.int .i64 b/\v=.int .i64 d):=fun h1 h2=>by
  obtain ⟨b,e⟩:=uq h1 hx;obtain ⟨d,e'⟩:=uq h2 hy;exact ⟨b,d,e,e'⟩
 have ar:∀ {op:BinOp} {f:Int->Int->Int},(∀ b d:Int,(binOp op t (.int .i64 b) (.int .i64 d)).run P w=.ok (.int .i64 (IntKind.wrap .i64 (f b d))) w)->(bif le x .i && le y .i then some S1.i else none)=some s->∃ r,(binOp op t u v).run P w=.ok r w/\ok g z w s r/\Jt u/\Jt v:=fun hf h'=>by
  obtain ⟨k,rfl⟩:=cI h';rw [Bool.and_eq_true] at k;obtain ⟨b,d,rfl,rfl⟩:=gen k.1 k.2;exact ⟨_,hf b d,FX _,⟨_,rfl⟩,⟨_,rfl⟩⟩
 have cm:∀ {op:BinOp} {f:Int->Int->Bool},(∀ b d:Int,(binOp op t (.int .i64 b) (.int .i64 d)).run P w=.ok (.bool (f b d)) w)->(bif le x .i && le y .i then some S1.b else none)=some s->∃ r,(binOp op t u v).run P w=.ok r w/\ok g z w s r/\Jt u/\Jt v:=fun hf h'=>by
  obtain ⟨k,rfl⟩:=cI h';rw [Bool.and_eq_true] at k;obtain ⟨b,d,rfl,rfl⟩:=gen k.1 k.2;exact ⟨_,hf b d,⟨_,rfl⟩,⟨_,rfl⟩,⟨_,rfl⟩⟩
 unfold Fn at h
 split at h
 ·rename_i b1 b2 d1 d2
  obtain ⟨b,rfl,q1,q2⟩:=hx;obtain ⟨d,rfl,q3,q4⟩:=hy;cases h
  refine ⟨.int .i64 (IntKind.wrap .i64 (b+d)),rfl,?_,⟨_,rfl⟩,⟨_,rfl⟩⟩
  cases e:Nat.ble (b2+d2) 1000000 with
  | false=>exact FX _
  | true=>
  rw [Nat.ble_eq] at e;refine ⟨b+d,?_,ω,ω⟩;rw [←Int.natCast_add]
  congr 1
  exact Gw _ ω
 ·rename_i b1 b2 d1 d2
  obtain ⟨b,rfl,q1,q2⟩:=hx;obtain ⟨d,rfl,q3,q4⟩:=hy;cases h
  refine ⟨.bool (decide ((b:Int)<d)),rfl,?_,⟨_,rfl⟩,⟨_,rfl⟩⟩
  cases e:Nat.blt b2 d1 with
  | true=>
   have:b2<d1:=iE e
   show _=_
   rw [decide_eq_true ω]
  | false=>
  cases e':Nat.ble d2 b1 with
  | true=>
   rw [Nat.ble_eq] at e'
   show _=_
   rw [decide_eq_false ω]
  | false=>exact ⟨_,rfl⟩
 ·rename_i b1 b2 d1 d2
  obtain ⟨b,rfl,q1,q2⟩:=hx;obtain ⟨d,rfl,q3,q4⟩:=hy;cases h
  refine ⟨.bool (decide ((b:Int) > d)),rfl,?_,⟨_,rfl⟩,⟨_,rfl⟩⟩
  cases e:Nat.blt d2 b1 with
  | true=>
   have:d2<b1:=iE e
   show _=_
   rw [decide_eq_true ω]
  | false=>
  cases e':Nat.ble b2 d1 with
  | true=>
   rw [Nat.ble_eq] at e'
   show _=_
   rw [decide_eq_false ω]
  | false=>exact ⟨_,rfl⟩
 ·exact ar (fun _ _=>rfl) h
 ·exact ar (fun _ _=>rfl) h
 ·exact ar (fun _ _=>rfl) h
 ·exact cm (fun _ _=>rfl) h
 ·exact cm (fun _ _=>rfl) h
 ·exact cm (fun _ _=>rfl) h
 ·exact cm (fun _ _=>rfl) h
 cases h
theorem eqG {op:BinOp} {t:TypeId} {x y:Operand} {u v:Value} (hu:Jt u):(eqGuard op t x y u v).run P w=.ok () w:=by
 obtain ⟨b,rfl⟩:=hu;unfold eqGuard
 cases op <;> simp
theorem ww {z:Nat}:∀ xs:List Operand,(∀ x ∈ xs,ok g z w (ρ x) (a.eval x))->Nc g z w (xs.map ρ) (xs.map a.eval)
 | [],_=>trivial
 | x :: xs,h=>⟨h x List.mem_cons_self,ww xs fun y hy=>h y (List.mem_cons_of_mem _ hy)⟩
theorem Hw (hE:dF P E) (h:Sy E ρ o.op=some (s,c)) (hρ:∀ x ∈ o.op.operands.toList,ok g w0 w (ρ x) (a.eval x)) (hw:Wd w0 g B n vc K w) (hk:K+c<=700000000) :
  o.wp P a w (fun a' w'=>∃ v,a'=a.put o.dst v/\Gv w0 w g B n vc (K+c) s v w') Q:=by
 obtain ⟨dst,op,type,pos,after,guard⟩:=o
 dsimp only at h hρ
 have hlt:=hw.cur.size;have hle:=hw.gr.size;unfold Sy at h
 split at h
 ·rename_i x
  cases h
  exact dq hw rfl (hρ x (by simp [Op.operands]))
 ·rename_i x
  cases h
  exact dq hw rfl (hρ x (by simp [Op.operands]))
 ·rename_i c x y
  split at h
  ·rename_i t e
   cases h
   have hc:=hρ c (by simp [Op.operands]);rw [e] at hc;have hc:a.eval c=.bool t:=hc;refine dq (v:=if t then a.eval x else a.eval y) hw (by simp [execOp,hc,asBool]) ?_;cases t
   ·exact hρ y (by simp [Op.operands])
   exact hρ x (by simp [Op.operands])
  cases h
 ·rename_i t
  obtain ⟨m,hm,h⟩:=Option.bind_eq_some_iff.1 h;cases h
  obtain ⟨v,w',h1,h2,h3⟩:=yn (w:=w) (g:=g) (hE.fl _ (bc hm)) ω hle;exact zW hw (by simp [execOp,h1]) h2 h3
 ·rename_i t ps
  obtain ⟨m,hm,h⟩:=Option.bind_eq_some_iff.1 h;obtain ⟨h1,h2⟩:=cI h;cases h2
  rw [Bool.and_eq_true,List.all_eq_true] at h1
  obtain ⟨v,h3,h4⟩:=run_build (P:=P) (w:=w) (g:=g) (z:=w0.heap.size) (hE.fl _ (bc hm)) (Nat.le_of_ble_eq_true h1.1) (ps:=ps.map fun (i,x)=>(i,a.eval x)) (fun q hq=>by
   obtain ⟨q',h5,rfl⟩:=Array.mem_map.1 (Array.mem_toList_iff.1 hq);have h6:=h1.2 q' (Array.mem_toList_iff.2 h5);rw [Bool.and_eq_true] at h6
   exact ⟨iE h6.1,uq h6.2 (hρ q'.2 (List.mem_map.2 ⟨q',Array.mem_toList_iff.2 h5,rfl⟩))⟩)
  exact dq hw (by simp [execOp,h3]) h4
 ·rename_i t k ps
  obtain ⟨e,he,h⟩:=Option.bind_eq_some_iff.1 h;obtain ⟨m,hm,h⟩:=Option.bind_eq_some_iff.1 h;obtain ⟨h1,h2⟩:=cI h;cases h2
  rw [Bool.and_eq_true,Bool.and_eq_true,Bool.and_eq_true,List.all_eq_true] at h1
  obtain ⟨v,w',h3,h4,h5⟩:=vN (P:=P) (w:=w) (g:=g) (z:=w0.heap.size) (hE.sl _ (bc he)) (hE.fl _ (bc hm)) (Nat.le_of_ble_eq_true h1.1) (Nat.le_of_ble_eq_true h1.2.1) (Nat.le_of_ble_eq_true h1.2.2.1) hle ω (ps:=ps.map fun (i,x)=>(i,a.eval x)) (fun q hq=>by
   obtain ⟨q',h5,rfl⟩:=Array.mem_map.1 (Array.mem_toList_iff.1 hq);have h6:=h1.2.2.2 q' (Array.mem_toList_iff.2 h5);rw [Bool.and_eq_true] at h6
   exact ⟨iE h6.1,i7 _ _ _ h6.2 (hρ q'.2 (List.mem_map.2 ⟨q',Array.mem_toList_iff.2 h5,rfl⟩))⟩)
  exact zW hw (by simp [execOp,h3]) h4 h5
 ·rename_i t x
  obtain ⟨m,hm,h⟩:=Option.bind_eq_some_iff.1 h
  split at h
  ·rename_i oo k e
   obtain ⟨h1,h2⟩:=cI h;cases h2
   have hx:=hρ x (by simp [Op.operands]);rw [e] at hx;obtain ⟨u,h3,h4⟩:=tw (hE.fl _ (bc hm)) hx (Nat.le_of_ble_eq_true h1);exact dq hw (by simp [execOp,h3]) h4
  cases h
 ·rename_i t x y
  obtain ⟨m,hm,h⟩:=Option.bind_eq_some_iff.1 h
  split at h
  ·rename_i k e
   obtain ⟨h1,h2⟩:=cI h;cases h2
   rw [Bool.and_eq_true] at h1;have hx:=hρ x (by simp [Op.operands]);rw [e] at hx;obtain ⟨w',h3,h4,h5⟩:=yp (hE.fl _ (bc hm)) hx (Nat.le_of_ble_eq_true h1.1) (i7 _ _ _ h1.2 (hρ y (by simp [Op.operands]))) hw;exact IK (by simp [execOp,h3]) ⟨trivial,h4,h5⟩
  cases h
 ·rename_i t x f
  obtain ⟨m,hm,h⟩:=Option.bind_eq_some_iff.1 h
  split at h
  ·rename_i oo k e
   obtain ⟨h1,h2⟩:=cI h;cases h2
   rw [Bool.and_eq_true,Bool.and_eq_true] at h1;have hx:=hρ x (by simp [Op.operands]);rw [e] at hx;obtain ⟨u,h3,h4⟩:=yo (hE.fl _ (bc hm)) (Nat.le_of_ble_eq_true h1.1) hx (iE h1.2.1) (Nat.le_of_ble_eq_true h1.2.2);exact dq hw (by simp [execOp,h3]) h4
  cases h
 ·rename_i t x y
  obtain ⟨e,he,h⟩:=Option.bind_eq_some_iff.1 h;obtain ⟨m,hm,h⟩:=Option.bind_eq_some_iff.1 h;have hx:=hρ x (by simp [Op.operands]);have hy:=hρ y (by simp [Op.operands])
  split at h
  ·rename_i e1 e2
   obtain ⟨h1,h2⟩:=cI h;cases h2
   rw [Bool.and_eq_true] at h1;rw [e1,Nat.eq_of_beq_eq_true h1.1] at hx;rw [e2] at hy;obtain ⟨u,h3,h4⟩:=vP (hE.sl _ (bc he)) (hE.fl _ (bc hm)) hx hy (iE h1.2);exact dq hw (by simp [execOp,h3]) h4
  ·rename_i e1 e2
   obtain ⟨h1,h2⟩:=cI h;cases h2
   rw [Bool.and_eq_true,Bool.and_eq_true] at h1;rw [e1,Nat.eq_of_beq_eq_true h1.1,Nat.eq_of_beq_eq_true h1.2.1] at hx;rw [e2] at hy;obtain ⟨u,h3,h4⟩:=vO (hE.sl _ (bc he)) (hE.fl _ (bc hm)) hx hy (iE h1.2.2);exact dq hw (by simp [execOp,h3]) h4
  cases h
 ·rename_i t x y
  obtain ⟨e,he,h⟩:=Option.bind_eq_some_iff.1 h;obtain ⟨m,hm,h⟩:=Option.bind_eq_some_iff.1 h;have hx:=hρ x (by simp [Op.operands]);have hy:=hρ y (by simp [Op.operands])
  split at h
  ·rename_i e1 e2
   obtain ⟨h1,h2⟩:=cI h;cases h2
   rw [Bool.and_eq_true,Bool.and_eq_true] at h1;rw [e1,Nat.eq_of_beq_eq_true h1.1,Nat.eq_of_beq_eq_true h1.2.1] at hx;rw [e2] at hy;obtain ⟨u,h3,h4⟩:=t8 (hE.sl _ (bc he)) (hE.fl _ (bc hm)) hx hy (Nat.le_of_ble_eq_true h1.2.2);exact dq hw (by simp [execOp,h3]) h4
  cases h
 ·rename_i t x y
  obtain ⟨e,he,h⟩:=Option.bind_eq_some_iff.1 h;obtain ⟨m,hm,h⟩:=Option.bind_eq_some_iff.1 h;have hx:=hρ x (by simp [Op.operands]);have hy:=hρ y (by simp [Op.operands])
  split at h
  ·rename_i e1 e2
   obtain ⟨h1,h2⟩:=cI h;cases h2
   rw [Bool.and_eq_true,Bool.and_eq_true] at h1;rw [e1,Nat.eq_of_beq_eq_true h1.1,Nat.eq_of_beq_eq_true h1.2.1] at hx;rw [e2] at hy;obtain ⟨u,h3,h4⟩:=uA (hE.sl _ (bc he)) (hE.fl _ (bc hm)) hx hy (Nat.le_of_ble_eq_true h1.2.2);exact dq hw (by simp [execOp,h3]) h4
  cases h
 ·rename_i x j
  have hx:=hρ x (by simp [Op.operands])
  split at h
  all_goals first | (cases h;done) | skip
  all_goals
   rename_i e1
   rw [e1] at hx;cases h
   first
    | (obtain ⟨u1,u2,e,h1,h2⟩:=hx;first | exact dq hw (by simp [execOp,Instr.extract,e]) h1 | exact dq hw (by simp [execOp,Instr.extract,e]) h2)
    | (obtain ⟨u1,u2,u3,e,h1,h2,h3⟩:=hx;first | exact dq hw (by simp [execOp,Instr.extract,e]) h1 | exact dq hw (by simp [execOp,Instr.extract,e]) h2 | exact dq hw (by simp [execOp,Instr.extract,e]) h3)
 ·rename_i op t x y _
  obtain ⟨r,hr,h⟩:=Option.bind_eq_some_iff.1 h;cases h
  obtain ⟨v,h1,h2,h3,h4⟩:=Fo (P:=P) (t:=t) hr (hρ x (by simp [Op.operands])) (hρ y (by simp [Op.operands]));exact dq hw (by simp [execOp,eqG h3,h1]) h2
 ·rename_i x
  have hx:=hρ x (by simp [Op.operands])
  split at h
  ·rename_i e
   cases h
   rw [e] at hx;have hx:a.eval x=_:=hx;exact dq (v:=.bool !_) hw (by simp [execOp,Op.unary,hx]) rfl
  ·rename_i e
   cases h
   rw [e] at hx;obtain ⟨t,hx⟩:=hx;exact dq (v:=.bool !t) hw (by simp [execOp,Op.unary,hx]) ⟨_,rfl⟩
  cases h
 ·rename_i f xs ts
  obtain ⟨A,h1,h2⟩:=Ar h;obtain ⟨h3,h4⟩:=hE.fn _ h1;have hx:=BS _ _ _ h2 (ww xs.toList fun x hx=>hρ x (by simp [Op.operands,Call.operands];exact .inr (Array.mem_toList_iff.1 hx)));refine ll (args:=(xs.toList.map a.eval).toArray) ?_ ((h4 g B n vc K _ w _ hx hw.cur hk).mono ?_)
  ·have:=h3 (xs.map a.eval) w
   rw [←Array.toList_map,Array.toArray_toList]
   simpa [execOp,resolve,Act.eval,Deferred.ofValue,invoke] using this
  rintro e w' ⟨x,rfl,k1,k2,k3⟩;exact ⟨x,rfl,jR hle _ _ k1,hw.call k2 k3,.grown k3⟩
 ·rename_i x t
  obtain ⟨e,he,h⟩:=Option.bind_eq_some_iff.1 h;have hx:=hρ x (by simp [Op.operands,Call.operands])
  have fin:∀ {A l c},a.eval x=.slice A l c->(execOp a.eval ⟨dst,.call { callee:=.builtin .len,args:=⟨[x]⟩,argTypes:=⟨[t]⟩ },type,pos,after,guard⟩).run P w=.ok (.value (.int .i64 l)) w:=fun h=>by
   have:=ET (P:=P) (w:=w) (ty:=type) (hE.sl _ (bc he)) h;simp [execOp,resolve,invoke,builtin]
   rw [show ({ toList:=[t] }:Array TypeId)=#[t] from rfl,this];rfl
  split at h
  ·rename_i e1
   cases h
   rw [e1] at hx;obtain ⟨A,l,c,e2,h1,-⟩:=hx;exact dq hw (fin e2) ⟨l,rfl,h1.1,h1.2.1⟩
  ·rename_i e1
   cases h
   rw [e1] at hx;obtain ⟨A,l,c,e2,h1,-⟩:=hx;exact dq hw (fin e2) ⟨l,rfl,h1.1,h1.2.1⟩
  ·rename_i e1
   cases h
   rw [e1] at hx;exact dq hw (fin hx) ⟨0,rfl,IY _,IY _⟩
  cases h
 ·rename_i x y t u
  obtain ⟨e,he,h⟩:=Option.bind_eq_some_iff.1 h;obtain ⟨m,hm,h⟩:=Option.bind_eq_some_iff.1 h;have hx:=hρ x (by simp [Op.operands,Call.operands]);have hy:=hρ y (by simp [Op.operands,Call.operands])
  have hx:ok g w0 w (Dr e m (ρ x)) (a.eval x):=by
   unfold Dr
   split
   ·rename_i e1
    rw [e1] at hx;exact i7 .z _ _ rfl hx
   exact hx
  have fin:∀ {k lo hi a' b d:Nat},Dr e m (ρ x)=.o d k lo hi->ok g w0 w (.s m a' b) (a.eval y)->(Nat.beq t u && (Nat.beq d e && (Nat.beq k m && (Nat.ble 1 a' && Nat.ble (hi+b) 1000))))=true->
    Oper.wp P ⟨dst,.call { callee:=.builtin .append,args:=⟨[x,y]⟩,argTypes:=⟨[t,u]⟩ },type,pos,after,guard⟩ a w (fun a1 w'=>∃ v,a1=a.put dst v/\Gv w0 w g B n vc (K+0) (.o e m (lo+a') (hi+b)) v w') Q:=by
   intro k lo hi a' b d e1 hy h1;simp only [Bool.and_eq_true] at h1;obtain ⟨q1,q2,q3,q4,q5⟩:=h1;obtain rfl:=Nat.eq_of_beq_eq_true q1;obtain rfl:=Nat.eq_of_beq_eq_true q2;obtain rfl:=Nat.eq_of_beq_eq_true q3;rw [e1] at hx;obtain ⟨r,w',r1,r2⟩:=vM (P:=P) (ty:=type) (hE.sl _ (bc he)) (hE.fl _ (bc hm)) hx hy (Nat.le_of_ble_eq_true q4) (Nat.le_of_ble_eq_true q5) hw;exact gH (by simp [execOp,resolve,invoke,builtin];rw [show ({ toList:=[t,t] }:Array TypeId)=#[t,t] from rfl,r1];rfl) r2
  split at h
  ·rename_i d k lo hi j a' b e1 e2
   obtain ⟨h1,h2⟩:=cI h;cases h2
   rw [e2] at hy
   have hj:j=m:=by
    simp only [Bool.and_eq_true] at h1;exact Nat.eq_of_beq_eq_true h1.2.2.2.1
   subst hj;exact fin e1 hy (by simp only [Bool.and_eq_true] at h1 ⊢;exact ⟨h1.1,h1.2.1,h1.2.2.1,h1.2.2.2.2⟩)
  ·rename_i d k lo hi e' j a' b e1 e2
   obtain ⟨h1,h2⟩:=cI h;cases h2
   rw [e2] at hy
   have hj:j=m:=by
    simp only [Bool.and_eq_true] at h1;exact Nat.eq_of_beq_eq_true h1.2.2.2.1
   subst hj;exact fin e1 (i7 _ (.s j a' b) _ (by simp [le,Nat.beq_eq]) hy) (by simp only [Bool.and_eq_true] at h1 ⊢;exact ⟨h1.1,h1.2.1,h1.2.2.1,h1.2.2.2.2⟩)
  cases h
 cases h
end Dw
namespace Dw
def iS (l:Nat->Bool) (i:Nat):Nat->Bool:=fun j=>if j=i then true else l j
def G3 (ops:Array Oper) (l:Nat->Bool) (o:Oper):Prop:=∀ e ∈ o.after,Region.binds .any e=true->l e.on=true
theorem vK {P:Program} {Q:Exit->Act->World->Prop} {ops:Array Oper} {a:Act} {w:World} (I:(Nat->Bool)->Act->World->Prop) (hm:P.follows .mixedOrders=true) (id:Nat) (dr:Bool)
  (hac:∀ (i:Nat) o,ops[i]?=some o->∀ e ∈ o.after,Region.binds .any e=true->e.on<i)
  (h0:I (fun _=>false) a w/\I (fun _=>false) a { w with drawn:=w.drawn+1 })
  (hs:∀ l a w i o,I l a w->ops[i]?=some o->l i=false->G3 ops l o->wpOp P ops Q i (fun a' w'=>I (iS l i) a' w') a w)
  (hQ:∀ l a w,I l a w->(∀ i,i<ops.size->l i=true)->Q .normal a w):(Code.region id ops dr).wp P Q a w:=by
 cases dr with
 | false=>
  refine wp_region ?_
  have key:∀ (n i:Nat) a w,i+n=ops.size->I (fun j=>decide (j<i)) a w->wpOps P ops Q (List.range' i n) a w:=by
   intro n
   induction n with
   | zero=>
    intro i a w hn hI
    exact hQ _ a w hI fun j hj=>decide_eq_true ω
   | succ n ih=>
   intro i a w hn hI
   obtain ⟨o,ho⟩:∃ o,ops[i]?=some o:=⟨_,Array.getElem?_eq_getElem ω⟩
   rw [List.range'_succ,wpOps_cons];refine wpOp_mono (fun a' w' h=>ih (i+1) a' w' ω ?_) (hs _ a w i o hI ho (decide_eq_false ω) fun e he hb=>decide_eq_true (hac i o ho e he hb))
   have e:(fun j=>decide (j<i+1))=iS (fun j=>decide (j<i)) i:=by
    funext j
    unfold iS
    split
    ·subst j;simp
    exact decide_eq_decide.2 ω
   rw [e];exact h
  rw [List.range_eq_range'];refine key _ 0 a w ω ?_
  have e:(fun j=>decide (j<0))=fun _=>false:=by funext j;simp
  rw [e];exact h0.1
 | true=>
 refine wp_region_any hm ?_
 have hall:∀ L:Array Bool,L.size=ops.size->Region.ready .any ops L=[]->∀ i,i<ops.size->L.getD i false=true:=by
  intro L hL hr i
  induction i using Nat.strongRecOn with
  | ind i ih=>
  intro hi
  cases hl:L.getD i false
  ·exfalso
   have hm:i ∈ Region.ready .any ops L:=by
    unfold Region.ready;rw [List.mem_filter];refine ⟨List.mem_range.2 hi,?_⟩
    have hg:L.getD i true=false:=by
     rw [Array.getD_eq_getD_getElem?,Array.getElem?_eq_getElem ω] at hl ⊢;exact hl
    rw [hg,Array.getElem?_eq_getElem hi];simp only [Bool.not_false,Bool.true_and,Option.map_some,Option.getD_some];rw [Array.all_eq_true_iff_forall_mem];intro e he
    cases hb:Region.binds .any e
    ·rfl
    have hlt:=hac i _ (Array.getElem?_eq_getElem hi) e he hb;simp [ih e.on hlt ω]
   rw [hr] at hm;cases hm
  rfl
 have key:∀ (fuel:Nat) (L:Array Bool) (a:Act) (w:World),L.size=ops.size->Rg.left (fun j=>L.getD j false) ops.size<=fuel->I (fun j=>L.getD j false) a w->wpAny P .any ops Q fuel L a w:=by
  intro fuel
  induction fuel with
  | zero=>
   intro L a w hL hl hI;have hz:=ge _ (Nat.le_zero.1 hl);refine ⟨?_,hQ _ a w hI hz⟩;unfold Region.ready;rw [List.filter_eq_nil_iff];intro i hi;have hi:=List.mem_range.1 hi;have h1:=hz i hi
   have hg:L.getD i true=true:=by
    simp only [Array.getD_eq_getD_getElem?] at h1 ⊢;rw [Array.getElem?_eq_getElem ω] at h1 ⊢;exact h1
   rw [hg];simp
  | succ fuel ih=>
  intro L a w hL hl hI;refine ⟨fun hr=>hQ _ a w hI (hall L hL hr),fun i hi=>?_⟩;obtain ⟨hun,o,ho,La⟩:=mem_ready.1 hi;have hilt:i<ops.size:=(Array.getElem?_eq_some_iff.1 ho).1
  have hun':L.getD i false=false:=by
   simp only [Array.getD_eq_getD_getElem?] at hun ⊢;rw [Array.getElem?_eq_getElem ω] at hun ⊢;exact hun
  have e1:(fun j=>(L.setIfInBounds i true).getD j false)=iS (fun j=>L.getD j false) i:=by
   funext j
   unfold iS;simp only [Array.getD_eq_getD_getElem?]
   by_cases hji:j=i
   ·subst hji
    rw [Array.getElem?_setIfInBounds_self_of_lt ω];simp
   rw [Array.getElem?_setIfInBounds_ne (fun e=>hji e.symm),if_neg hji]
  refine wpOp_mono (fun a' w' h=>ih _ a' w' (by simpa using hL) ?_ (by rw [e1];exact h)) (hs _ a w i o hI ho hun' La);have:=i8 (l:=fun j=>L.getD j false) (l':=iS (fun j=>L.getD j false) i) hun' (if_pos rfl) (fun j hj=>if_neg hj) ops.size hilt;rw [e1];omega
 have e0:(fun j=>(Array.replicate ops.size false).getD j false)=fun _=>false:=by
  funext j
  rw [Array.getD_eq_getD_getElem?,Array.getElem?_replicate]
  split <;> rfl
 refine key _ _ a _ σ ?_ (by rw [e0];exact h0.2);rw [e0]
 have:∀ n,Rg.left (fun _=>false) n<=n:=fun n=>by
  induction n with
  | zero=>exact IY _
  | succ n ih=>unfold Rg.left;simp only [Bool.false_eq_true,if_false];omega
 exact this _
end Dw
namespace Dw
def wr:List Oper->Nat->Nat->Option Nat
 | [],_,_=>none
 | o :: os,k,t=>match o.dst with
  | some d=>bif Nat.beq d t then some k else wr os (k+1) t
  | none=>wr os (k+1) t
def nth (l:List S1) (i:Nat):S1:=l.getD i .any
def ri (s:List S1) (os:List Oper) (T:List S1) (i:Nat):Operand->S1
 | .tmp t=>match wr os 0 t with
  | some j=>bif Nat.blt j i then nth T j else nth s t
  | none=>nth s t
 | .const v=>cS v
 | _=>.any
def onE (o:Oper) (j:Nat):Bool:=o.after.toList.any fun e=>Region.binds .any e && Nat.beq e.on j
def ck1 (E:Env) (s:List S1) (os:List Oper) (T:List S1) (C:List Nat) (j:Nat) (b:Bool) (i:Nat) (o:Oper):Bool:=
 let run:=match Sy E (ri s os T i) o.op with
  | some (r,c)=>Nat.ble c (C.getD i 0) && (bif Nat.beq i j then le r .b && (le (.k b) (nth T i) && (le (nth T i) (.k b) && o.dst.isSome)) else le r (nth T i))
  | none=>false
 match o.guard with
 | some (q,want)=>Nat.beq q j && (onE o j && (bif want == b then run else le .any (nth T i)))
 | none=>run
def Pm (E:Env) (s:List S1) (os:List Oper) (T:List S1) (C:List Nat) (j:Nat) (b:Bool):Nat->List Oper->Bool
 | _,[]=>true
 | i,o :: l=>ck1 E s os T C j b i o && Pm E s os T C j b (i+1) l
def RA (T U:List S1) (j:Nat):Nat->List Oper->Bool
 | _,[]=>true
 | i,o :: l=>(Nat.beq i j || (onE o j || (le (nth T i) (nth U i) && le (nth U i) (nth T i)))) && RA T U j (i+1) l
def sum:List Nat->Nat
 | []=>0
 | c :: C=>c+sum C
def cnt (l:Nat->Bool):List Nat->Nat->Nat
 | [],_=>0
 | c :: C,k=>(bif l k then c else 0)+cnt l C (k+1)
theorem ju (l:Nat->Bool):∀ C k,cnt l C k<=sum C
 | [],_=>IY _
 | c :: C,k=>by
  have:=ju l C (k+1);unfold cnt sum
  cases l k <;> simp <;> omega
theorem sc {l:Nat->Bool} {i:Nat}:∀ C k,i<k->cnt (iS l i) C k=cnt l C k
 | [],_,_=>rfl
 | c :: C,k,h=>by
  unfold cnt;rw [sc C (k+1) ω,show iS l i k=l k from if_neg ω]
theorem qa {l:Nat->Bool} {i c:Nat} (hl:l i=false):∀ C k,k<=i->c<=C.getD (i - k) 0->cnt l C k+c<=cnt (iS l i) C k
 | [],k,_,h=>by simp at h;unfold cnt;omega
 | d :: C,k,hk,h=>by
  unfold cnt
  by_cases e:i=k
  ·subst e
   rw [Nat.sub_self] at h;rw [sc C (i+1) ω,show iS l i i=true from if_pos rfl,hl];simp at h ⊢
   omega
  have:=qa (c:=c) hl C (k+1) ω (by rw [show i - k=(i - (k+1))+1 by omega] at h;simpa using h);rw [show iS l i k=l k from if_neg ω];omega
theorem qX {E:Env} {s:List S1} {os:List Oper} {T:List S1} {C:List Nat} {j:Nat} {b:Bool}:∀ (l:List Oper) (k i:Nat) (o:Oper),Pm E s os T C j b k l=true->l[i]?=some o->ck1 E s os T C j b (k+i) o=true
 | [],_,_,_,_,h=>by simp at h
 | x :: l,k,0,o,h,ho=>by
  simp only [List.getElem?_cons_zero,Option.some.injEq] at ho;subst ho;rw [Pm,Bool.and_eq_true] at h;exact h.1
 | x :: l,k,i+1,o,h,ho=>by
  rw [Pm,Bool.and_eq_true] at h;have:=qX l (k+1) i o h.2 (by simpa using ho)
  rwa [show k+(i+1)=k+1+i by omega]
theorem AC {T U:List S1} {j:Nat}:∀ (l:List Oper) (k i:Nat) (o:Oper),RA T U j k l=true->l[i]?=some o->k+i=j∨onE o j=true∨le (nth T (k+i)) (nth U (k+i))=true/\le (nth U (k+i)) (nth T (k+i))=true
 | [],_,_,_,_,h=>by simp at h
 | x :: l,k,0,o,h,ho=>by
  simp only [List.getElem?_cons_zero,Option.some.injEq] at ho;subst ho;rw [RA,Bool.and_eq_true,Bool.or_eq_true,Bool.or_eq_true,Bool.and_eq_true] at h;exact h.1.imp (fun h=>Nat.eq_of_beq_eq_true h) id
 | x :: l,k,i+1,o,h,ho=>by
  rw [RA,Bool.and_eq_true] at h;have:=AC l (k+1) i o h.2 (by simpa using ho)
  rwa [show k+(i+1)=k+1+i by omega]
theorem r9 {t:Nat}:∀ (os:List Oper) (k i:Nat),wr os k t=some i->∃ j o,i=k+j/\os[j]?=some o/\o.dst=some t
 | [],_,_,h=>by cases h
 | o :: os,k,i,h=>by
  unfold wr at h
  split at h
  ·rename_i d hd
   cases e:Nat.beq d t with
   | true=>
    rw [e] at h;cases h
    exact ⟨0,o,rfl,rfl,by rw [hd,Nat.eq_of_beq_eq_true e]⟩
   | false=>
   rw [e] at h;obtain ⟨j,x,h1,h2⟩:=r9 os (k+1) i h;exact ⟨j+1,x,ω,by simpa using h2⟩
  obtain ⟨j,x,h1,h2⟩:=r9 os (k+1) i h;exact ⟨j+1,x,ω,by simpa using h2⟩
theorem FW {t:Nat}:∀ (os:List Oper) (k j:Nat) (o:Oper),Rg.apart os=true->os[j]?=some o->o.dst=some t->wr os k t=some (k+j)
 | [],_,_,_,_,h,_=>by simp at h
 | x :: os,k,0,o,ha,h,hd=>by
  simp only [List.getElem?_cons_zero,Option.some.injEq] at h;subst h;unfold wr;rw [hd];simp
 | x :: os,k,j+1,o,ha,h,hd=>by
  rw [Rg.apart,Bool.and_eq_true] at ha;have:=FW os (k+1) j o ha.2 (by simpa using h) hd;have hs:=List.all_eq_true.1 ha.1 o (List.mem_of_getElem? (by simpa using h:os[j]?=some o));unfold wr;rw [show k+(j+1)=k+1+j by omega,←this]
  split
  ·rename_i d hd'
   rw [Rg.sep,hd',hd,bne_iff_ne] at hs
   have hne:d≠t:=fun e=>hs (by rw [e])
   have:Nat.beq d t=false:=by rw [Bool.eq_false_iff];intro e;exact hne (Nat.eq_of_beq_eq_true e)
   rw [this];rfl
  rfl
def sh (s:List S1) (os:List Oper) (T:List S1) (l:Nat->Bool) (t:Nat):S1:=match wr os 0 t with
 | some j=>bif l j then nth T j else nth s t
 | none=>nth s t
def fin (os:List Oper) (T:List S1):Nat->List S1->List S1
 | _,[]=>[]
 | t,x :: l=>(match wr os 0 t with | some j=>nth T j | none=>x) :: fin os T (t+1) l
theorem Ap {os:List Oper} {T:List S1}:∀ (l:List S1) (k t:Nat),t<l.length->nth (fin os T k l) t=match wr os 0 (k+t) with | some j=>nth T j | none=>nth l t
 | [],_,_,h=>by simp at h
 | x :: l,k,0,_=>rfl
 | x :: l,k,t+1,h=>by
  have:=Ap (os:=os) (T:=T) l (k+1) t (by simpa using h);rw [show k+(t+1)=k+1+t by omega];exact this
theorem qi {os:List Oper} {T:List S1}:∀ (l:List S1) (k:Nat),(fin os T k l).length=l.length
 | [],_=>rfl
 | x :: l,k=>by rw [fin,List.length_cons,qi l,List.length_cons]
structure Ok (w0:World) (g B n:Nat) (vc:Value) (s:List S1) (K:Nat) (a:Act) (w:World):Prop where
 wd:Wd w0 g B n vc K w
 sl:∀ t,ok g w0 w (nth s t) (a.eval (.tmp t))
 size:a.tmps.size=s.length
 de:a.defers=[]
end Dw
namespace Dw
variable {P:Program} {Q:Exit->Act->World->Prop} {E:Env} {ops:Array Oper} {w0:World} {g B n K j:Nat} {vc:Value} {s:List S1} {T:Bool->List S1} {C:List Nat}
structure Iv (w0:World) (g B n:Nat) (vc:Value) (s:List S1) (K:Nat) (ops:Array Oper) (T:Bool->List S1) (C:List Nat) (j:Nat) (l:Nat->Bool) (a:Act) (w:World):Prop where
 wd:Wd w0 g B n vc (K+cnt l C 0) w
 sl:∃ b,∀ t,ok g w0 w (sh s ops.toList (T b) l t) (a.eval (.tmp t))
 size:a.tmps.size=s.length
 de:a.defers=[]
 cl:∀ (i:Nat) o,ops[i]?=some o->l i=true->G3 ops l o
theorem CD {a:Act} {d t:Nat} {v:Value} (h:d≠t):(a.put (some d) v).eval (.tmp t)=a.eval (.tmp t):=by
 simp [Act.eval,Act.put,Array.getElem?_setIfInBounds_ne h]
theorem oj {a:Act} {d:Nat} {v:Value} (h:d<a.tmps.size):(a.put (some d) v).eval (.tmp d)=v:=by
 simp [Act.eval,Act.put,h]
theorem CE {a:Act} {v:Value} {x:Operand}:(a.put none v).eval x=a.eval x:=rfl
theorem CC {a:Act} {d:Option Tmp} {v:Value}:(a.put d v).defers=a.defers:=by cases d <;> rfl
theorem vD {o:Oper} {j:Nat} (h:onE o j=true):∃ e ∈ o.after,Region.binds .any e=true/\e.on=j:=by
 obtain ⟨e,he,h⟩:=List.any_eq_true.1 h;rw [Bool.and_eq_true] at h;exact ⟨e,Array.mem_toList_iff.1 he,h.1,Nat.eq_of_beq_eq_true h.2⟩
theorem yk (hE:dF P E) (hm:P.follows .mixedOrders=true) {id:Nat} {dr:Bool} (hok:d6 .any ops s.length=true) (hT:∀ b,Pm E s ops.toList (T b) C j b 0 ops.toList=true) (hI:RA (T false) (T true) j 0 ops.toList=true)
  {a:Act} {w:World} (h:Ok w0 g B n vc s K a w) (hK:K+sum C<=700000000) (hQ:∀ b a' w',Ok w0 g B n vc (fin ops.toList (T b) 0 s) (K+sum C) a' w'->Q .normal a' w'):(Code.region id ops dr).wp P Q a w:=by
 rw [Rg.d6,Bool.and_eq_true,Bool.and_eq_true] at hok;obtain ⟨⟨hap,hrd⟩,hac⟩:=hok
 have Ja:∀ (i:Nat) o,ops[i]?=some o->(∀ e ∈ o.after,Region.binds .any e=true->e.on<i)/\∀ d,o.dst=some d->d<s.length:=fun i o hi=>by
  have hlt:i<ops.size:=(Array.getElem?_eq_some_iff.1 hi).1;have:=List.all_eq_true.1 hac i (List.mem_range.2 hlt);rw [hi] at this;simp only [Bool.and_eq_true,List.all_eq_true,Bool.or_eq_true,Bool.not_eq_true',decide_eq_true_eq] at this;refine ⟨fun e he hb=>?_,fun d hd=>?_⟩
  ·rcases this.1 e (Array.mem_toList_iff.2 he) with q | q
   ·rw [hb] at q;cases q
   exact q
  have:=this.2;rw [hd] at this
  simpa using this
 have htl:∀ i,ops.toList[i]?=ops[i]?:=fun i=>Array.getElem?_toList
 have KV:∀ {t i:Nat},wr ops.toList 0 t=some i->∃ o,ops[i]?=some o/\o.dst=some t:=fun {t i} h=>by
  obtain ⟨j,o,h1,h2,h3⟩:=r9 _ 0 i h;rw [Nat.zero_add] at h1;subst h1;exact ⟨o,by rw [←htl];exact h2,h3⟩
 have NS:∀ {t i:Nat} {o:Oper},ops[i]?=some o->o.dst=some t->wr ops.toList 0 t=some i:=fun {t i o} h1 h2=>by
  have:=FW ops.toList 0 i o hap (by rw [htl];exact h1) h2
  rwa [Nat.zero_add] at this
 refine vK (Iv w0 g B n vc s K ops T C j) hm id dr (fun i o hi=>(Ja i o hi).1) ?_ ?_ ?_
 ·have c0:cnt (fun _=>false) C 0=0:=by
   have:∀ C k,cnt (fun _=>false) C k=0:=fun C=>by
    induction C with
    | nil=>intro _;rfl
    | cons c C ih=>intro k;unfold cnt;rw [ih];rfl
   exact this C 0
  have s0:∀ t,sh s ops.toList (T true) (fun _=>false) t=nth s t:=fun t=>by unfold sh;split <;> rfl
  exact ⟨⟨by rw [c0];exact h.wd,⟨true,fun t=>by rw [s0];exact h.sl t⟩,h.size,h.de,fun _ _ _ h=>by cases h⟩,
   ⟨by rw [c0];exact h.wd.drew,⟨true,fun t=>by rw [s0];exact iM (.grown (bO (IX _ _).drew _)) _ _ (h.sl t)⟩,h.size,h.de,fun _ _ _ h=>by cases h⟩⟩
 ·intro l a w i o hI' ho hl hd
  obtain ⟨wd,⟨b,sl⟩,sz,de,cl⟩:=hI';have hlt:i<ops.size:=(Array.getElem?_eq_some_iff.1 ho).1;have hrow:=qX ops.toList 0 i o (hT b) (by rw [htl];exact ho);rw [Nat.zero_add] at hrow
  have hρ:∀ x ∈ o.op.operands.toList,ok g w0 w (ri s ops.toList (T b) i x) (a.eval x):=by
   intro x hx
   cases x with
   | const v=>exact Ez _ _ _ _
   | global _=>trivial
   | func _=>trivial
   | tmp t=>
   have ht:t ∈ o.looksAt ops:=List.mem_append.2 (.inl (List.mem_filterMap.2 ⟨_,hx,rfl⟩))
   have hr1:iO .any ops i o t=true:=by
    have:=List.all_eq_true.1 hrd i (List.mem_range.2 hlt);rw [ho] at this;exact List.all_eq_true.1 this t ht
   have e:ri s ops.toList (T b) i (.tmp t)=sh s ops.toList (T b) l t:=by
    unfold ri sh
    dsimp only
    cases hw:wr ops.toList 0 t with
    | none=>rfl
    | some q=>
    dsimp only
    obtain ⟨x,hx1,hx2⟩:=KV hw
    have key:l q=Nat.blt q i:=by
     rw [iO,Bool.or_eq_true] at hr1
     rcases hr1 with p | p
     ·obtain ⟨e,he,hp⟩:=List.any_eq_true.1 p
      rw [Bool.and_eq_true,beq_iff_eq] at hp;obtain ⟨y,hy1,hy2⟩:=Option.bind_eq_some_iff.1 hp.2;have:=NS hy1 hy2;rw [hw] at this
      injection this with this
      subst this;have h1:=hd e (Array.mem_toList_iff.1 he) hp.1;have h2:=(Ja i o ho).1 e (Array.mem_toList_iff.1 he) hp.1;rw [h1]
      symm
      rw [Nat.blt_eq];exact h2
     have:=List.all_eq_true.1 p q (List.mem_range.2 (Array.getElem?_eq_some_iff.1 hx1).1);rw [hx1] at this;simp only [Bool.or_eq_true,bne_iff_ne,ne_eq,beq_iff_eq,List.any_eq_true,Bool.and_eq_true] at this
     rcases this with (q1 | q1) | ⟨e,he,hb,hon⟩
     ·exact absurd hx2 q1
     ·subst q1
      rw [hl]
      symm
      rw [Bool.eq_false_iff];intro e;have:=iE e;omega
     have h1:l q=false:=by
      rw [Bool.eq_false_iff];intro e';have:=cl q x hx1 e' e (Array.mem_toList_iff.1 he) hb;rw [hon,hl] at this;cases this
     have h2:=(Ja q x hx1).1 e (Array.mem_toList_iff.1 he) hb;rw [h1]
     symm
     rw [Bool.eq_false_iff];intro e;have:=iE e;omega
    rw [key]
   rw [e];exact sl t
  have hc1:=ju (iS l i) C 0
  have next:∀ (b':Bool) (r:S1) (c:Nat) (v:Value) (w':World),(∀ t q,wr ops.toList 0 t=some q->l q=true->le (nth (T b) q) (nth (T b') q)=true)->Nat.ble c (C.getD i 0)=true->le r (nth (T b') i)=true->Gv w0 w g B n vc (K+cnt l C 0+c) r v w'->Iv w0 g B n vc s K ops T C j (iS l i) (a.put o.dst v) w':=by
   intro b' r c v w' hb hc hr hv;obtain ⟨v1,v2,v3⟩:=hv;have hcc:=qa (l:=l) hl C 0 (Nat.zero_le _) (Nat.le_of_ble_eq_true hc);refine ⟨v2.up ω,⟨b',fun t=>?_⟩,by rw [tg];exact sz,by rw [CC];exact de,fun q x hx hq e he hbd=>?_⟩
   ·have hold:(∀ q,wr ops.toList 0 t=some q->q≠i)->ok g w0 w' (sh s ops.toList (T b') (iS l i) t) (a.eval (.tmp t)):=fun hne=>by
     have h1:=iM v3 _ _ (sl t);unfold sh at h1 ⊢
     cases hw:wr ops.toList 0 t with
     | none=>rw [hw] at h1;exact h1
     | some q=>
     rw [hw] at h1
     dsimp only at h1 ⊢
     rw [show iS l i q=l q from if_neg (hne q hw)]
     cases hq:l q with
     | false=>rw [hq] at h1;exact h1
     | true=>rw [hq] at h1;exact i7 _ _ _ (hb t q hw hq) h1
    cases hd':o.dst with
    | none=>
     rw [CE]
     refine hold fun q hq e=>?_
     subst e;obtain ⟨x,hx1,hx2⟩:=KV hq;rw [ho] at hx1;cases hx1
     rw [hd'] at hx2;cases hx2
    | some d=>
    by_cases e:d=t
    ·subst e
     rw [oj (by rw [sz];exact (Ja i o ho).2 d hd')]
     have:sh s ops.toList (T b') (iS l i) d=nth (T b') i:=by
      unfold sh;rw [NS ho hd']
      dsimp only
      rw [show iS l i i=true from if_pos rfl];rfl
     rw [this];exact i7 _ _ _ hr v1
    rw [CD e]
    refine hold fun q hq e'=>?_
    subst e';obtain ⟨x,hx1,hx2⟩:=KV hq;rw [ho] at hx1;cases hx1
    rw [hd'] at hx2;exact e (Option.some.inj hx2)
   unfold iS at hq ⊢
   split at hq
   ·rename_i e'
    subst e';rw [ho] at hx;cases hx
    have:=hd e he hbd;rw [this]
    split <;> rfl
   have:=cl q x hx hq e he hbd;rw [this]
   split <;> rfl
  have run:(match Sy E (ri s ops.toList (T b) i) o.op with
    | some (r,c)=>Nat.ble c (C.getD i 0) && (bif Nat.beq i j then le r .b && (le (.k b) (nth (T b) i) && (le (nth (T b) i) (.k b) && o.dst.isSome)) else le r (nth (T b) i))
    | none=>false)=true->(Nat.beq i j=true->∀ b',le (.k b') (nth (T b') i)=true)->o.wp P a w (fun a' w'=>Iv w0 g B n vc s K ops T C j (iS l i) a' w') Q:=by
   intro hr hj
   split at hr
   ·rename_i r c hop
    rw [Bool.and_eq_true] at hr;obtain ⟨hc,h2⟩:=hr;have hcc:=qa (l:=l) hl C 0 (Nat.zero_le _) (Nat.le_of_ble_eq_true hc);refine Oper.wp_mono ?_ (Hw hE hop hρ wd ω);rintro a' w' ⟨v,rfl,hv⟩
    cases hij:Nat.beq i j with
    | false=>
     rw [hij] at h2;exact next b r c v w' (fun _ _ _ _=>le_refl _) hc h2 hv
    | true=>
    rw [hij] at h2;have hij':=Nat.eq_of_beq_eq_true hij;have h2:(le r .b && (le (.k b) (nth (T b) i) && (le (nth (T b) i) (.k b) && o.dst.isSome)))=true:=h2;rw [Bool.and_eq_true] at h2;obtain ⟨b',hb'⟩:=i7 r .b v h2.1 hv.1;refine next b' (.k b') c v w' (fun t q hq hlq=>?_) hc (hj hij b') ⟨hb',hv.2⟩;obtain ⟨x,hx,-⟩:=KV hq;have:=AC ops.toList 0 q x hI (by rw [htl];exact hx);rw [Nat.zero_add] at this
    rcases this with rfl | h3 | ⟨h3,h4⟩
    ·rw [←hij',hl] at hlq
     cases hlq
    ·obtain ⟨e,he,hbd,hon⟩:=vD h3
     have:=cl q x hx hlq e he hbd;rw [hon,←hij',hl] at this;cases this
    cases b <;> cases b'
    ·exact le_refl _
    ·exact h3
    ·exact h4
    exact le_refl _
   cases hr
  unfold wpOp;rw [ho]
  dsimp only
  unfold ck1 at hrow
  dsimp only at hrow
  cases hg:o.guard with
  | none=>
   rw [hg] at hrow;rw [if_pos (by simp [Region.wanted,hg])];refine .inl (run hrow fun hij b'=>?_);have h1:=qX ops.toList 0 i o (hT b') (by rw [htl];exact ho);rw [Nat.zero_add] at h1;unfold ck1 at h1
   dsimp only at h1
   rw [hg] at h1
   dsimp only at h1
   split at h1
   ·rw [hij,Bool.and_eq_true] at h1
    have h2:=h1.2;simp only [cond_true,Bool.and_eq_true] at h2;exact h2.2.1
   cases h1
  | some qw=>
  obtain ⟨q,want⟩:=qw;rw [hg] at hrow
  dsimp only at hrow
  rw [Bool.and_eq_true,Bool.and_eq_true] at hrow;obtain ⟨hq,hon,hrow⟩:=hrow;obtain rfl:=Nat.eq_of_beq_eq_true hq;obtain ⟨e,he,hbd,hon⟩:=vD hon;have hlq:=hd e he hbd;have hqi:=(Ja i o ho).1 e he hbd;rw [hon] at hlq hqi
  obtain ⟨x,hx⟩:∃ x,ops[q]?=some x:=⟨_,Array.getElem?_eq_getElem ω⟩
  have hrq:=qX ops.toList 0 q x (hT b) (by rw [htl];exact hx);rw [Nat.zero_add] at hrq
  have hxg:∃ d,x.dst=some d/\le (nth (T b) q) (.k b)=true:=by
   unfold ck1 at hrq
   dsimp only at hrq
   cases hxg:x.guard with
   | none=>
    rw [hxg] at hrq
    dsimp only at hrq
    split at hrq
    ·rw [Nat.beq_refl,Bool.and_eq_true] at hrq
     have h2:=hrq.2;simp only [cond_true,Bool.and_eq_true,Option.isSome_iff_exists] at h2;obtain ⟨d,hd⟩:=h2.2.2.2;exact ⟨d,hd,h2.2.2.1⟩
    cases hrq
   | some y=>
   obtain ⟨q',want'⟩:=y;rw [hxg] at hrq
   dsimp only at hrq
   rw [Bool.and_eq_true,Bool.and_eq_true] at hrq;obtain ⟨e',he',XA,hon'⟩:=vD hrq.2.1;have:=(Ja q x hx).1 e' he' XA;omega
  obtain ⟨d,hxd,hle⟩:=hxg;have hsl:=sl d
  have:sh s ops.toList (T b) l d=nth (T b) q:=by
   unfold sh;rw [NS hx hxd]
   dsimp only
   rw [hlq];rfl
  rw [this] at hsl;have hval:a.eval (.tmp d)=.bool b:=i7 _ _ _ hle hsl;have hdl:=(Ja q x hx).2 d hxd
  have hy:yielded ops a.tmps q=some b:=by
   unfold yielded;rw [hx,Option.bind_some,hxd,Option.bind_some];have h1:a.tmps.getD d undef=.bool b:=hval
   have hdl:d<a.tmps.size:=by rw [sz];exact hdl
   rw [Array.getD_eq_getD_getElem?,Array.getElem?_eq_getElem hdl] at h1;rw [Array.getElem?_eq_getElem hdl];simp only [Option.getD_some] at h1;rw [h1]
  have hij:Nat.beq i q=false:=by rw [Bool.eq_false_iff];intro e;have:=Nat.eq_of_beq_eq_true e;omega
  cases hwb:want == b with
  | true=>
   rw [hwb] at hrow;have:=(beq_iff_eq (a:=want) (b:=b)).1 hwb;subst this;rw [if_pos (by simp [Region.wanted,hg,hy])];exact .inl (run hrow fun h=>by rw [hij] at h;cases h)
  | false=>
  rw [hwb] at hrow;have:want≠b:=beq_eq_false_iff_ne.1 hwb;rw [if_neg (by simp [Region.wanted,hg,hy];exact Ne.symm this)];exact next b .any 0 undef w (fun _ _ _ _=>le_refl _) σ hrow ⟨trivial,wd,Mon.refl _ _⟩
 rintro l a w ⟨wd,⟨b,sl⟩,sz,de,-⟩ hall;refine hQ b a w ⟨wd.up (Nat.add_le_add_left (ju l C 0) K),fun t=>?_,by rw [qi];exact sz,de⟩
 by_cases ht:t<s.length
 ·rw [Ap s 0 t ht,Nat.zero_add]
  have h1:=sl t;unfold sh at h1
  cases hw:wr ops.toList 0 t with
  | none=>rw [hw] at h1;exact h1
  | some q=>
  rw [hw] at h1
  dsimp only at h1 ⊢
  obtain ⟨o,ho,-⟩:=KV hw;rw [hall q (Array.getElem?_eq_some_iff.1 ho).1] at h1;exact h1
 have:nth (fin ops.toList (T b) 0 s) t=.any:=by
  unfold nth;rw [List.getD_eq_getElem?_getD,List.getElem?_eq_none (by rw [qi];omega)];rfl
 rw [this]
 trivial
end Dw
end
end Go.Proofs.YtkalaljcbmkbmaaGreat
