/-
  Joined texts: contracts and plain lemmas.
-/
import Derived.Test.YtggekfbfechonaaGreatY1
import Derived.Test.YtggekfbfechonaaGreatY16
set_option linter.unusedSimpArgs false
set_option linter.unusedVariables false
set_option maxRecDepth 100000
set_option maxHeartbeats 8000000
namespace Go.Proofs.YtggekfbfechonaaGreat
section
open Go.RowKit
namespace M
noncomputable def gt (a b:Int) (i:Nat) (s:Int × Int) (p:Pt):Option (Int × Int):=
 if bW a b p.1 p.2.1 p.2.2=true then (if s.1<0∨cR a b p.1 p.2.2<s.2 then some ((i:Int),cR a b p.1 p.2.2) else some s) else none
noncomputable def dX (a b:Int) (l:List Pt):Nat→Option (Int × Int)
 | 0=>some (-1,0)
 | i+1=>(dX a b l i).bind fun s=>(l[i]?).bind fun p=>gt a b i s p
noncomputable def kz (a b:Int) (l:List Pt):Option Int:=if (good a b && ins (l.length:Int) 1 20)=true then (dX a b l l.length).map (·.1) else none
theorem gO {a b:Int} {l:List Pt} {i:Nat} {s:Int × Int} {p:Pt} (h:dX a b l i=some s) (hp:l[i]?=some p):dX a b l (i+1)=gt a b i s p:=by
 show (dX a b l i).bind _=_
 rw [h,hp];rfl
theorem fA {a b:Int} {l:List Pt} {i:Nat} (h:dX a b l i=none):∀ k,i≤k→dX a b l k=none
 | 0,hk=>by
  obtain rfl:i=0:=by omega
  exact h
 | k+1,hk=>by
  by_cases e:i=k+1
  ·rw [←e];exact h
  show (dX a b l k).bind _=none
  rw [fA h k (by omega)];rfl
theorem gu {a b:Int} {l:List Pt}:∀ (i:Nat) (s:Int × Int),dX a b l i=some s→(i=0→s=(-1,0))∧(0<i→0≤s.1∧s.1<i)∧-1≤s.1∧-1000000≤s.2∧s.2≤1000000
 | 0,s,h=>by cases h;exact ⟨fun _=>rfl,fun h=>by omega,by decide,by decide,by decide⟩
 | i+1,s,h=>by
  cases hq:dX a b l i with
  | none=>rw [fA hq (i+1) (by omega)] at h;cases h
  | some q=>
  obtain ⟨i1,i2,i3,i4,i5⟩:=gu i q hq
  cases hp:l[i]? with
  | none=>
   have:dX a b l (i+1)=none:=by
    show (dX a b l i).bind _=none
    rw [hq,hp];rfl
   rw [this] at h;cases h
  | some p=>
  rw [gO hq hp] at h;unfold gt at h
  split at h
  ·rename_i hpt
   have hb:=dI hpt
   split at h
   ·cases h
    exact ⟨fun h=>by omega,fun _=>⟨by dsimp only;omega,by dsimp only;omega⟩,by dsimp only;omega,by dsimp only;omega,by dsimp only;omega⟩
   rename_i hc
   cases h
   refine ⟨fun h=>by omega,fun _=>?_,i3,i4,i5⟩
   by_cases e:i=0
   ·have:=i1 e
    rw [this] at hc;exact absurd (Or.inl (by decide)) hc
   have:=i2 (by omega);omega
  cases h
theorem tH {a b r:Int} {l:List Pt} (h:kz a b l=some r):0≤r∧r<l.length:=by
 unfold kz at h
 split at h
 ·rename_i hc
  rw [Bool.and_eq_true] at hc;obtain ⟨h1,h2⟩:=cO.1 hc.2;obtain ⟨s,hs,rfl⟩:=Option.map_eq_some_iff.1 h;exact (gu _ s hs).2.1 (by omega)
 cases h
end M
theorem gl (a b:Int) (v:Value) (l:List Pt) (w:World) (hx:iH w v l) (hn:l.length≤4000000) :
  Calls Tryz.prog 50 #[.agg #[.int .i64 a,.int .i64 b],v] w fun e w'=>e=.returned (.tuple #[.int .i64 ((M.kz a b l).getD 0),.bool (M.kz a b l).isSome])∧Below w.heap.size w w':=by
 have PG:∀ W,Calls Tryz.prog 73 #[.agg #[.int .i64 a,.int .i64 b]] W fun e w'=>e=.returned (.bool (M.good a b))∧Below W.heap.size W w':=fun W=>iT a b W
 have PN:∀ W,Calls Tryz.prog 56 #[.int .i64 (l.length:Int),.int .i64 1,.int .i64 20] W fun e w'=>e=.returned (.bool (M.ins (l.length:Int) 1 20))∧W=w':=fun W=>cK (l.length:Int) 1 20 W
 obtain ⟨A,cap,rfl,hv⟩:=hx
 have hv0:M.kz a b l=if (M.good a b && M.ins (l.length:Int) 1 20)=true then (M.dX a b l l.length).map (·.1) else none:=rfl
 obtain ⟨N,hN⟩:∃ N,N=l.length:=⟨_,rfl⟩
 rw [←hN] at PN hn hv0 ⊢;replace hN:=wH hN;replace hv:=wH hv;obtain ⟨wc,hw3,C,B⟩:=ix w #[.int .i64 a,.int .i64 b] 25;have f_:=C.box.c0;have g_:=C.box.c1
 cases h0:M.good a b with
 | false=>
  rw [h0] at PG hv0;rw [Bool.false_and,if_neg (by decide)] at hv0;replace hv0:=wH hv0;replace PG:=wH PG;replace PN:=wH PN;go_enter Tryz.func50,Tryz.ntmps50
  go_wp2_with (first | (go_at_call 73;(with_reducible refine (PG.out _).mono ?_);rintro e w4 ⟨rfl,hb4⟩;replace B:=d_ B hb4;replace C:=C.keep hb4) | (go_at_call 56;(with_reducible refine (PN.out _).mono ?_);rintro e w5 ⟨rfl,rfl⟩))
  go_ret2;exact ⟨by rw [hv0.out];rfl,B⟩
 | true=>
 cases h1:M.ins (N:Int) 1 20 with
 | false=>
  rw [h0] at PG;rw [h1] at PN;rw [h0,h1,Bool.and_false,if_neg (by decide)] at hv0;replace hv0:=wH hv0;replace PG:=wH PG;replace PN:=wH PN;go_enter Tryz.func50,Tryz.ntmps50
  go_wp2_with (first | (go_at_call 73;(with_reducible refine (PG.out _).mono ?_);rintro e w4 ⟨rfl,hb4⟩;replace B:=d_ B hb4;replace C:=C.keep hb4) | (go_at_call 56;(with_reducible refine (PN.out _).mono ?_);rintro e w5 ⟨rfl,rfl⟩))
  go_ret2;exact ⟨by rw [hv0.out];rfl,B⟩
 | true=>
 obtain ⟨n1,n2⟩:=M.cO.1 h1;rw [h0] at PG;rw [h1] at PN;rw [h0,h1,Bool.and_self,if_pos rfl] at hv0;replace hv0:=wH hv0;replace PG:=wH PG;replace PN:=wH PN
 have PT:=wH fun (p:Pt) W=>(show Calls Tryz.prog 55 #[.agg #[.int .i64 a,.int .i64 b],.agg #[.int .i64 p.1,.int .i64 p.2.1,.int .i64 p.2.2]] W fun e w'=>e=.returned (.bool (M.bW a b p.1 p.2.1 p.2.2))∧Below W.heap.size W w' from dL a b p.1 p.2.1 p.2.2 W)
 have PB:=wH fun (p:Pt) (h:M.bW a b p.1 p.2.1 p.2.2=true) W=>cw a b p.1 p.2.1 p.2.2 W (M.bP h).1 (M.be (M.ag (M.bP h).1) (M.bP h).2).1 (M.be (M.ag (M.bP h).1) (M.bP h).2).2.1 (M.be (M.ag (M.bP h).1) (M.bP h).2).2.2.1 (M.be (M.ag (M.bP h).1) (M.bP h).2).2.2.2.1
 obtain ⟨res,hres⟩:∃ r,M.dX a b l N=r:=⟨_,rfl⟩
 have hval:=hv0.out;rw [hres] at hval;replace hval:=wH hval;replace hres:=wH hres;clear h0 h1 hv0;go_enter Tryz.func50,Tryz.ntmps50
 go_wp2_with (first | (go_at_call 73;(with_reducible refine (PG.out _).mono ?_);rintro e w4 ⟨rfl,hb4⟩;replace B:=d_ B hb4;replace C:=C.keep hb4) | (go_at_call 56;(with_reducible refine (PN.out _).mono ?_);rintro e w5 ⟨rfl,rfl⟩))
 have hwz:=B.size
 go_loopw [6,7,24] (fun vb vl vi wq=>∃ (i:Nat) (s:Int × Int),i≤N∧vi=.int .i64 i∧vb=.int .i64 s.1∧vl=.int .i64 s.2∧Hid (M.dX a b l i=some s)∧Below w.heap.size w wq∧aH wq w.heap.size 25 #[.int .i64 a,.int .i64 b]) (fun _ _ vi _=>N - (intOf vi).toNat)
 case atStart=>exact ⟨0,(-1,0),by omega,rfl,rfl,rfl,wH rfl,B,C⟩
 case round=>
 clear B C PG PN;obtain ⟨i,⟨s1,s2⟩,hi,rfl,rfl,rfl,hs,B,C⟩:=hrel
 by_cases hlt:i<N
 ·obtain ⟨p,hpi⟩:∃ p,l[i]?=some p:=⟨_,List.getElem?_eq_getElem (by have:=hN.out;omega)⟩
  obtain ⟨g,rfl,hpa⟩:∃ g,A=some ⟨g,0,none⟩∧ij w g l:=by
   rcases hv.out with h | h
   ·rw [h] at hpi;cases hpi
   exact h
  obtain ⟨d0,d1,d2⟩:=hpa.below B i p hpi;have hnx:=M.gO hs.out hpi;obtain ⟨hs0,hs1,hs2,hs3,hs4⟩:=M.gu i _ hs.out
  have hstop:=fun h=>M.fA (a:=a) (b:=b) (l:=l) (i:=i+1) h N (by omega)
  replace PT:=PT.out p;replace PB:=PB.out p;have hbd:=M.dI (a:=a) (b:=b) (X:=p.1) (Y:=p.2.1) (E:=p.2.2)
  have hie:(i:Int)<(N:Int):=by omega
  clear hpa hpi;obtain ⟨X,Y,E⟩:=p;unfold M.gt at hnx
  dsimp only at d0 d1 d2 hnx hs0 hs1 hs2 hs3 hs4 PT PB hbd
  have A3:=B.size;have f_:=C.box.c0;have g_:=C.box.c1
  cases hpt:M.bW a b X Y E with
  | false=>
   rw [hpt] at PT;replace PT:=wH PT;rw [hpt,if_neg (by decide)] at hnx;have hr0:res=none:=hres.out.symm.trans (hstop hnx);subst hr0;clear hnx hstop PB hbd hpt hs0 hs1 hs2 hs3 hs4;have B2:=B.alloc A3 (.cells #[.int .i64 X,.int .i64 Y,.int .i64 E] 27);have C2:=C.alloc (.cells #[.int .i64 X,.int .i64 Y,.int .i64 E] 27);have V:=aH.new wr #[.int .i64 X,.int .i64 Y,.int .i64 E] 27;have ⟨k0,k1,_,_,_⟩:=C2.box;have ⟨v0,v1,v2⟩:=V.aK
   go_wp2_with (first | (go_at_call 55;(with_reducible refine (PT.out _).mono ?_);rintro e w6 ⟨rfl,hb6⟩;replace B2:=d_ B2 hb6;replace C2:=C2.keep hb6;replace V:=V.keep hb6;(have ⟨k0,k1,_,_,_⟩:=C2.box);(have ⟨v0,v1,v2⟩:=V.aK)))
   go_ret2;exact ⟨by rw [hval.out];rfl,B2⟩
  | true=>
  rw [hpt] at PT;replace PT:=wH PT;rw [hpt,if_pos rfl] at hnx;obtain ⟨q0_,q1_,q2_,q3_,Io⟩:=hbd hpt;replace PB:=PB hpt;rw [Io] at PB;rw [show M.bL a b X E (M.bN a b X E)=M.cW a b X E from rfl,show M.bH a b X E (M.bN a b X E)=M.cR a b X E from rfl] at PB;generalize ((M.bN a b X E:Nat):Int)=kk at *;clear hstop hpt hbd Io;generalize M.cR a b X E=hh,M.cW a b X E=lo at *;have B2:=B.alloc A3 (.cells #[.int .i64 X,.int .i64 Y,.int .i64 E] 27);have C2:=C.alloc (.cells #[.int .i64 X,.int .i64 Y,.int .i64 E] 27);have V:=aH.new wr #[.int .i64 X,.int .i64 Y,.int .i64 E] 27;have ⟨k0,k1,_,_,_⟩:=C2.box;have ⟨v0,v1,v2⟩:=V.aK;replace PB:=wH PB;clear hs0 hs1 q3_
  by_cases hc:s1<0∨hh<s2
  ·rw [if_pos hc] at hnx
   replace hnx:=wH hnx
   have hcut:s1<0∨(¬ s1<0∧hh<s2):=by omega
   rcases hcut with hc1 | ⟨hc1,hc2⟩
   ·go_upto_region 13 with (first | (go_at_call 55;(with_reducible refine (PT.out _).mono ?_);rintro e w6 ⟨rfl,hb6⟩;replace B2:=d_ B2 hb6;replace C2:=C2.keep hb6;replace V:=V.keep hb6;(have ⟨k0,k1,_,_,_⟩:=C2.box);(have ⟨v0,v1,v2⟩:=V.aK)) | (go_at_call 61;(with_reducible refine (PB.out _).mono ?_);rintro e w7 ⟨rfl,wg⟩;have yK:=(d_ B2 wg).size;replace B2:=(d_ B2 wg).alloc yK (.cells #[.int .i64 lo,.int .i64 hh] 74);replace C2:=(C2.keep wg).alloc (.cells #[.int .i64 lo,.int .i64 hh] 74);have S:=aH.new w7 #[.int .i64 lo,.int .i64 hh] 74;(have ⟨t0,t1,_,_,_⟩:=S.box)))
    refine Rg.bO 5 [.is (.int .i64 (i:Int)),.is (.pointer (some ⟨w7.heap.size,1,none⟩)),.is (.int .i64 hh),.is (.int .i64 (i:Int)),.is (.int .i64 hh)] (by kernel_rfl) (by kernel_rfl) (by kernel_rfl) ⟨?_,?_,?_,?_,?_,trivial⟩ ?_
    ·intro _ zZ w_ hB hr
     have e8:zZ.tmps[8]?=some (.int .i64 (i:Int)):=hr 8 (by decide);exact Rg.aG rfl (by go_simp)
    ·intro _ zZ w_ hB hr
     have e10:zZ.tmps[10]?=some (.pointer (some ⟨w7.heap.size,0,none⟩)):=hr 10 (by decide);exact Rg.aG rfl (by go_simp)
    ·intro _ zZ w_ hB hr
     have e51:=Rg.c_ (hr 51 (by decide));have wS:=S.keep hB;have ⟨k0,k1,_,_,_⟩:=wS.box;exact Rg.aG rfl (by (first | (go_simp;done)))
    ·intro _ zZ w_ hB hr
     have e50:=Rg.c_ (hr 50 (by decide));exact Rg.aG rfl (by go_simp)
    ·intro _ zZ w_ hB hr
     have e52:=Rg.c_ (hr 52 (by decide));exact Rg.aG rfl (by go_simp)
    intro vals wz hB hv hne;have Cd:vals 3=.int .i64 (i:Int):=hv 3 (by decide);have As:vals 4=.int .i64 hh:=hv 4 (by decide);simp only [Rg.ay,Rg.fill,Act.put,Nat.reduceAdd];clear hv;simp only [Cd,As];clear Cd As;replace B2:=d_ B2 hB;replace C2:=C2.keep hB;clear hB hne;unfold Rg.aZ;go_wp2
    go_roundw
    case rel=>exact ⟨i+1,((i:Int),hh),by omega,by go_num,rfl,rfl,hnx,B2,C2⟩
    case measure=>simp [intOf];omega
   go_upto_region 13 with (first | (go_at_call 55;(with_reducible refine (PT.out _).mono ?_);rintro e w6 ⟨rfl,hb6⟩;replace B2:=d_ B2 hb6;replace C2:=C2.keep hb6;replace V:=V.keep hb6;(have ⟨k0,k1,_,_,_⟩:=C2.box);(have ⟨v0,v1,v2⟩:=V.aK)) | (go_at_call 61;(with_reducible refine (PB.out _).mono ?_);rintro e w7 ⟨rfl,wg⟩;have yK:=(d_ B2 wg).size;replace B2:=(d_ B2 wg).alloc yK (.cells #[.int .i64 lo,.int .i64 hh] 74);replace C2:=(C2.keep wg).alloc (.cells #[.int .i64 lo,.int .i64 hh] 74);have S:=aH.new w7 #[.int .i64 lo,.int .i64 hh] 74;(have ⟨t0,t1,_,_,_⟩:=S.box)))
   refine Rg.bO 5 [.is (.int .i64 (i:Int)),.is (.pointer (some ⟨w7.heap.size,1,none⟩)),.is (.int .i64 hh),.is (.int .i64 (i:Int)),.is (.int .i64 hh)] (by kernel_rfl) (by kernel_rfl) (by kernel_rfl) ⟨?_,?_,?_,?_,?_,trivial⟩ ?_
   ·intro _ zZ w_ hB hr
    have e8:zZ.tmps[8]?=some (.int .i64 (i:Int)):=hr 8 (by decide);exact Rg.aG rfl (by go_simp)
   ·intro _ zZ w_ hB hr
    have e10:zZ.tmps[10]?=some (.pointer (some ⟨w7.heap.size,0,none⟩)):=hr 10 (by decide);exact Rg.aG rfl (by go_simp)
   ·intro _ zZ w_ hB hr
    have e51:=Rg.c_ (hr 51 (by decide));have wS:=S.keep hB;have ⟨k0,k1,_,_,_⟩:=wS.box;exact Rg.aG rfl (by (first | (go_simp;done)))
   ·intro _ zZ w_ hB hr
    have e50:=Rg.c_ (hr 50 (by decide));exact Rg.aG rfl (by go_simp)
   ·intro _ zZ w_ hB hr
    have e52:=Rg.c_ (hr 52 (by decide));exact Rg.aG rfl (by go_simp)
   intro vals wz hB hv hne;have Cd:vals 3=.int .i64 (i:Int):=hv 3 (by decide);have As:vals 4=.int .i64 hh:=hv 4 (by decide);simp only [Rg.ay,Rg.fill,Act.put,Nat.reduceAdd];clear hv;simp only [Cd,As];clear Cd As;replace B2:=d_ B2 hB;replace C2:=C2.keep hB;clear hB hne;unfold Rg.aZ;go_wp2
   go_roundw
   case rel=>exact ⟨i+1,((i:Int),hh),by omega,by go_num,rfl,rfl,hnx,B2,C2⟩
   case measure=>simp [intOf];omega
  rw [if_neg hc] at hnx;replace hnx:=wH hnx
  have hc1:¬ s1<0:=by omega
  have hc2:¬ hh<s2:=by omega
  go_wp2_with (first | (go_at_call 55;(with_reducible refine (PT.out _).mono ?_);rintro e w6 ⟨rfl,hb6⟩;replace B2:=d_ B2 hb6;replace C2:=C2.keep hb6;replace V:=V.keep hb6;(have ⟨k0,k1,_,_,_⟩:=C2.box);(have ⟨v0,v1,v2⟩:=V.aK)) | (go_at_call 61;(with_reducible refine (PB.out _).mono ?_);rintro e w7 ⟨rfl,wg⟩;have yK:=(d_ B2 wg).size;replace B2:=(d_ B2 wg).alloc yK (.cells #[.int .i64 lo,.int .i64 hh] 74);replace C2:=(C2.keep wg).alloc (.cells #[.int .i64 lo,.int .i64 hh] 74);have S:=aH.new w7 #[.int .i64 lo,.int .i64 hh] 74;(have ⟨t0,t1,_,_,_⟩:=S.box)))
  go_roundw
  case rel=>exact ⟨i+1,(s1,s2),by omega,by go_num,rfl,rfl,hnx,B2,C2⟩
  case measure=>simp [intOf];omega
 obtain rfl:i=N:=by omega
 have hr0:res=some (s1,s2):=hres.out.symm.trans hs.out;subst hr0;go_wp2;go_ret2;exact ⟨by rw [hval.out];rfl,B⟩
theorem iC (a b:Int) (v:Value) (l:List Pt) (w:World) (hx:iH w v l) (hn:l.length≤4000000) :
  Calls Tryz.prog 51 #[.agg #[.int .i64 a,.int .i64 b],v] w fun e w'=>e=.returned (.tuple #[.int .i64 ((M.kz a b l).getD 0),.bool (M.kz a b l).isSome])∧Below w.heap.size w w':=by
 have PG:∀ W,Calls Tryz.prog 77 #[.agg #[.int .i64 a,.int .i64 b]] W fun e w'=>e=.returned (.bool (M.good a b))∧Below W.heap.size W w':=fun W=>dO a b W
 have PN:∀ W,Calls Tryz.prog 78 #[.int .i64 (l.length:Int),.int .i64 1,.int .i64 20] W fun e w'=>e=.returned (.bool (M.ins (l.length:Int) 1 20))∧W=w':=fun W=>ch (l.length:Int) 1 20 W
 obtain ⟨A,cap,rfl,hv⟩:=hx
 have hv0:M.kz a b l=if (M.good a b && M.ins (l.length:Int) 1 20)=true then (M.dX a b l l.length).map (·.1) else none:=rfl
 obtain ⟨N,hN⟩:∃ N,N=l.length:=⟨_,rfl⟩
 rw [←hN] at PN hn hv0 ⊢;replace hN:=wH hN;replace hv:=wH hv;obtain ⟨wc,hw3,C,B⟩:=ix w #[.int .i64 a,.int .i64 b] 25;have f_:=C.box.c0;have g_:=C.box.c1
 cases h0:M.good a b with
 | false=>
  rw [h0] at PG hv0;rw [Bool.false_and,if_neg (by decide)] at hv0;replace hv0:=wH hv0;replace PG:=wH PG;replace PN:=wH PN;go_enter Tryz.func51,Tryz.ntmps51
  go_wp2_with (first | (go_at_call 77;(with_reducible refine (PG.out _).mono ?_);rintro e w4 ⟨rfl,hb4⟩;replace B:=d_ B hb4;replace C:=C.keep hb4) | (go_at_call 78;(with_reducible refine (PN.out _).mono ?_);rintro e w5 ⟨rfl,rfl⟩))
  go_ret2;exact ⟨by rw [hv0.out];rfl,B⟩
 | true=>
 cases h1:M.ins (N:Int) 1 20 with
 | false=>
  rw [h0] at PG;rw [h1] at PN;rw [h0,h1,Bool.and_false,if_neg (by decide)] at hv0;replace hv0:=wH hv0;replace PG:=wH PG;replace PN:=wH PN;go_enter Tryz.func51,Tryz.ntmps51
  go_wp2_with (first | (go_at_call 77;(with_reducible refine (PG.out _).mono ?_);rintro e w4 ⟨rfl,hb4⟩;replace B:=d_ B hb4;replace C:=C.keep hb4) | (go_at_call 78;(with_reducible refine (PN.out _).mono ?_);rintro e w5 ⟨rfl,rfl⟩))
  go_ret2;exact ⟨by rw [hv0.out];rfl,B⟩
 | true=>
 obtain ⟨n1,n2⟩:=M.cO.1 h1;rw [h0] at PG;rw [h1] at PN;rw [h0,h1,Bool.and_self,if_pos rfl] at hv0;replace hv0:=wH hv0;replace PG:=wH PG;replace PN:=wH PN
 have PT:=wH fun (p:Pt) W=>(show Calls Tryz.prog 112 #[.agg #[.int .i64 a,.int .i64 b],.agg #[.int .i64 p.1,.int .i64 p.2.1,.int .i64 p.2.2]] W fun e w'=>e=.returned (.bool (M.bW a b p.1 p.2.1 p.2.2))∧Below W.heap.size W w' from by rw [show M.bW a b p.1 p.2.1 p.2.2=M.bG a b p.1 p.2.1 p.2.2 from by unfold M.bW;rw [h0];rfl];exact rm a b p.1 p.2.1 p.2.2 W h0)
 have PB:=wH fun (p:Pt) (h:M.bW a b p.1 p.2.1 p.2.2=true) W=>eN a b p.1 p.2.1 p.2.2 W (M.bP h).1 (M.be (M.ag (M.bP h).1) (M.bP h).2).1 (M.be (M.ag (M.bP h).1) (M.bP h).2).2.1 (M.be (M.ag (M.bP h).1) (M.bP h).2).2.2.1 (M.be (M.ag (M.bP h).1) (M.bP h).2).2.2.2.1
 obtain ⟨res,hres⟩:∃ r,M.dX a b l N=r:=⟨_,rfl⟩
 have hval:=hv0.out;rw [hres] at hval;replace hval:=wH hval;replace hres:=wH hres;clear h0 h1 hv0;go_enter Tryz.func51,Tryz.ntmps51
 go_wp2_with (first | (go_at_call 77;(with_reducible refine (PG.out _).mono ?_);rintro e w4 ⟨rfl,hb4⟩;replace B:=d_ B hb4;replace C:=C.keep hb4) | (go_at_call 78;(with_reducible refine (PN.out _).mono ?_);rintro e w5 ⟨rfl,rfl⟩))
 have hwz:=B.size;have hCl:=C.lt;have L:=aH.new w4 #[.int .i64 0,.int .i64 0] 31;replace C:=C.alloc (.cells #[.int .i64 0,.int .i64 0] 31);have hzc:=C.lt;have hwl:=L.lt;replace B:=B.alloc hwz (.cells #[.int .i64 0,.int .i64 0] 31);generalize hG:w4.heap.size=G at *
 skip
 go_loopw [6,25] (fun vb vi wq=>∃ (i:Nat) (s:Int × Int) (bb c d:Int),i≤N∧vi=.int .i64 i∧vb=.int .i64 bb∧Hid (0<i→bb=s.1∧c=M.pn s.2∧d=M.pd s.2)∧Hid (M.dX a b l i=some s)∧Below w.heap.size w wq∧aH wq w.heap.size 25 #[.int .i64 a,.int .i64 b]∧aH wq G 31 #[.int .i64 c,.int .i64 d]) (fun _ vi _=>N - (intOf vi).toNat)
 case atStart=>exact ⟨0,(-1,0),0,0,0,by omega,rfl,rfl,wH (fun h=>by omega),wH rfl,B,C,L⟩
 case round=>
 clear B C PG PN L;obtain ⟨i,⟨s1,s2⟩,bb,c,d,hi,rfl,rfl,hcd,hs,B,C,L⟩:=hrel
 by_cases hlt:i<N
 ·obtain ⟨p,hpi⟩:∃ p,l[i]?=some p:=⟨_,List.getElem?_eq_getElem (by have:=hN.out;omega)⟩
  obtain ⟨g,rfl,hpa⟩:∃ g,A=some ⟨g,0,none⟩∧ij w g l:=by
   rcases hv.out with h | h
   ·rw [h] at hpi;cases hpi
   exact h
  obtain ⟨d0,d1,d2⟩:=hpa.below B i p hpi;have hnx:=M.gO hs.out hpi;obtain ⟨hs0,hs1,hs2,hs3,hs4⟩:=M.gu i _ hs.out
  have hstop:=fun h=>M.fA (a:=a) (b:=b) (l:=l) (i:=i+1) h N (by omega)
  replace PT:=PT.out p;replace PB:=PB.out p;have hbd:=M.dI (a:=a) (b:=b) (X:=p.1) (Y:=p.2.1) (E:=p.2.2)
  have hie:(i:Int)<(N:Int):=by omega
  clear hpa hpi;obtain ⟨X,Y,E⟩:=p;unfold M.gt at hnx
  dsimp only at d0 d1 d2 hnx hs0 hs1 hs2 hs3 hs4 PT PB hbd
  have A3:=B.size;have f_:=C.box.c0;have g_:=C.box.c1
  cases hpt:M.bW a b X Y E with
  | false=>
   rw [hpt] at PT;replace PT:=wH PT;rw [hpt,if_neg (by decide)] at hnx;have hr0:res=none:=hres.out.symm.trans (hstop hnx);subst hr0;clear hnx hstop PB hbd hpt hs0 hs1 hs2 hs3 hs4;have B2:=B.alloc A3 (.cells #[.int .i64 X,.int .i64 Y,.int .i64 E] 27);have C2:=C.alloc (.cells #[.int .i64 X,.int .i64 Y,.int .i64 E] 27);have V:=aH.new wr #[.int .i64 X,.int .i64 Y,.int .i64 E] 27;have ⟨k0,k1,_,_,_⟩:=C2.box;have ⟨v0,v1,v2⟩:=V.aK;have L2:=L.alloc (.cells #[.int .i64 X,.int .i64 Y,.int .i64 E] 27)
   go_wp2_with (first | (go_at_call 112;(with_reducible refine (PT.out _).mono ?_);rintro e w6 ⟨rfl,hb6⟩;replace B2:=d_ B2 hb6;replace C2:=C2.keep hb6;replace V:=V.keep hb6;replace L2:=L2.keep hb6;(have ⟨k0,k1,_,_,_⟩:=C2.box);(have ⟨v0,v1,v2⟩:=V.aK)))
   go_ret2;exact ⟨by rw [hval.out];rfl,B2⟩
  | true=>
  rw [hpt] at PT;replace PT:=wH PT;rw [hpt,if_pos rfl] at hnx;obtain ⟨q0_,q1_,q2_,q3_,Io⟩:=hbd hpt;replace PB:=PB hpt;rw [Io] at PB;simp only [M.bn] at PB;rw [show M.bL a b X E (M.bN a b X E)=M.cW a b X E from rfl,show M.bH a b X E (M.bN a b X E)=M.cR a b X E from rfl] at PB;generalize ((M.bN a b X E:Nat):Int)=kk at *;clear hstop hpt hbd Io;generalize M.cR a b X E=hh,M.cW a b X E=lo at *;have B2:=B.alloc A3 (.cells #[.int .i64 X,.int .i64 Y,.int .i64 E] 27);have C2:=C.alloc (.cells #[.int .i64 X,.int .i64 Y,.int .i64 E] 27);have V:=aH.new wr #[.int .i64 X,.int .i64 Y,.int .i64 E] 27;have ⟨k0,k1,_,_,_⟩:=C2.box;have ⟨v0,v1,v2⟩:=V.aK;have L2:=L.alloc (.cells #[.int .i64 X,.int .i64 Y,.int .i64 E] 27);have DI:=L.lt
  by_cases hi0:i=0
  ·have hsz:=hs0 hi0
   cases hsz
   rw [if_pos (Or.inl (by decide))] at hnx;replace hnx:=wH hnx;subst hi0;simp only [Nat.zero_mul,Nat.zero_add] at d0 d1 d2
   obtain ⟨b1,Cv⟩:∃ x,M.pn lo=x:=⟨_,rfl⟩
   obtain ⟨b2,Dj⟩:∃ x,M.pd lo=x:=⟨_,rfl⟩
   obtain ⟨b3,Am⟩:∃ x,M.pn hh=x:=⟨_,rfl⟩
   obtain ⟨b4,An⟩:∃ x,M.pd hh=x:=⟨_,rfl⟩
   rw [Cv,Dj,Am,An] at PB;replace PB:=wH PB;replace Am:=wH Am;replace An:=wH An;clear Cv Dj;clear hs0 hs1
   go_wp2_with (first | (go_at_call 112;(with_reducible refine (PT.out _).mono ?_);rintro e w6 ⟨rfl,hb6⟩;replace B2:=d_ B2 hb6;replace C2:=C2.keep hb6;replace V:=V.keep hb6;replace L2:=L2.keep hb6;(have ⟨k0,k1,_,_,_⟩:=C2.box);(have ⟨v0,v1,v2⟩:=V.aK)) | (go_at_call 63;(with_reducible refine (PB.out _).mono ?_);rintro e w7 ⟨rfl,wg⟩;have yK:=(d_ B2 wg).size;replace B2:=(d_ B2 wg).alloc yK (.cells #[.int .i64 b1,.int .i64 b2,.int .i64 b3,.int .i64 b4] 33);replace C2:=(C2.keep wg).alloc (.cells #[.int .i64 b1,.int .i64 b2,.int .i64 b3,.int .i64 b4] 33);replace L2:=(L2.keep wg).alloc (.cells #[.int .i64 b1,.int .i64 b2,.int .i64 b3,.int .i64 b4] 33);have S:=aH.new w7 #[.int .i64 b1,.int .i64 b2,.int .i64 b3,.int .i64 b4] 33;(have ⟨t0,t1,t2,t3,_,_,_,_,_⟩:=S.aP);(have ⟨l0,l1,m0,m1,_⟩:=L2.box)))
   go_roundw
   case rel=>exact ⟨0+1,(((0:Nat):Int),hh),_,b3,b4,by omega,by go_num,rfl,wH (fun _=>⟨rfl,Am.out.symm,An.out.symm⟩),hnx,wJ (wJ B2 (by dsimp only;omega) _) (by dsimp only;omega) _,(C2.other (by omega) _).other (by omega) _,L2.set2 _ _⟩
   case measure=>simp [intOf];omega
  obtain ⟨hs5,hs6⟩:=hs1 (by omega);obtain ⟨rfl,rfl,rfl⟩:=hcd.out (by omega)
  have hib:((i:Int) == 0)=false:=by simpa using (show ¬ (i:Int)=0 by omega)
  have hcc:=M.rf (x:=hh) (y:=s2) (by omega) (by omega) (by omega) (by omega);have bdh:=M.eK (M.bS (a:=hh) (by omega) (by omega));have bds:=M.eK (M.bS (a:=s2) (by omega) (by omega));obtain ⟨-,MK,ML,-,-,-,-,MM,e4_⟩:=bdh;obtain ⟨-,ym,Ay,-,-,-,-,f3_,f4_⟩:=bds;have yW:=M.aL (x:=M.pn hh) (y:=M.pd s2) (m:=1000000000) (n:=4096) (by omega) (by omega) (by omega) (by omega);have zR:=M.aL (x:=M.pn s2) (y:=M.pd hh) (m:=1000000000) (n:=4096) (by omega) (by omega) (by omega) (by omega)
  have PL:=fun W=>iQ (M.pn hh) (M.pd hh) (M.pn s2) (M.pd s2) W (by omega) (by omega) (by omega) (by omega)
  rw [show decide (M.pn hh*M.pd s2<M.pn s2*M.pd hh)=decide (hh<s2) from decide_eq_decide.2 hcc] at PL;clear hcc MK ML MM e4_ ym Ay f3_ f4_ yW zR hs0 hs1
  obtain ⟨c1,E9⟩:∃ x,M.pn s2=x:=⟨_,rfl⟩
  obtain ⟨GB,FA⟩:∃ x,M.pd s2=x:=⟨_,rfl⟩
  rw [E9,FA] at PL L L2
  obtain ⟨b1,Cv⟩:∃ x,M.pn lo=x:=⟨_,rfl⟩
  obtain ⟨b2,Dj⟩:∃ x,M.pd lo=x:=⟨_,rfl⟩
  obtain ⟨b3,Am⟩:∃ x,M.pn hh=x:=⟨_,rfl⟩
  obtain ⟨b4,An⟩:∃ x,M.pd hh=x:=⟨_,rfl⟩
  rw [Cv,Dj,Am,An] at PB;replace PB:=wH PB;replace Am:=wH Am;replace An:=wH An;clear Cv Dj;rw [Am.out,An.out] at PL;replace E9:=wH E9;replace FA:=wH FA
  by_cases hc:hh<s2
  ·rw [if_pos (Or.inr hc)] at hnx
   replace hnx:=wH hnx;rw [decide_eq_true hc] at PL;replace PL:=wH PL
   go_wp2_with (first | (go_at_call 112;(with_reducible refine (PT.out _).mono ?_);rintro e w6 ⟨rfl,hb6⟩;replace B2:=d_ B2 hb6;replace C2:=C2.keep hb6;replace V:=V.keep hb6;replace L2:=L2.keep hb6;(have ⟨k0,k1,_,_,_⟩:=C2.box);(have ⟨v0,v1,v2⟩:=V.aK)) | (go_at_call 63;(with_reducible refine (PB.out _).mono ?_);rintro e w7 ⟨rfl,wg⟩;have yK:=(d_ B2 wg).size;replace B2:=(d_ B2 wg).alloc yK (.cells #[.int .i64 b1,.int .i64 b2,.int .i64 b3,.int .i64 b4] 33);replace C2:=(C2.keep wg).alloc (.cells #[.int .i64 b1,.int .i64 b2,.int .i64 b3,.int .i64 b4] 33);replace L2:=(L2.keep wg).alloc (.cells #[.int .i64 b1,.int .i64 b2,.int .i64 b3,.int .i64 b4] 33);have S:=aH.new w7 #[.int .i64 b1,.int .i64 b2,.int .i64 b3,.int .i64 b4] 33;(have ⟨t0,t1,t2,t3,_,_,_,_,_⟩:=S.aP);(have ⟨l0,l1,m0,m1,_⟩:=L2.box)) | (go_at_call 111;(with_reducible refine (PL.out _).mono ?_);rintro e w8 ⟨rfl,xB⟩;replace B2:=d_ B2 xB;replace C2:=C2.keep xB;replace L2:=L2.keep xB;replace S:=S.keep xB;(have ⟨t0,t1,t2,t3,_,_,_,_,_⟩:=S.aP);(have ⟨l0,l1,m0,m1,_⟩:=L2.box)))
   go_roundw
   case rel=>exact ⟨i+1,((i:Int),hh),_,b3,b4,by omega,by go_num,rfl,wH (fun _=>⟨rfl,Am.out.symm,An.out.symm⟩),hnx,wJ (wJ B2 (by dsimp only;omega) _) (by dsimp only;omega) _,(C2.other (by omega) _).other (by omega) _,L2.set2 _ _⟩
   case measure=>simp [intOf];omega
  rw [if_neg (by omega)] at hnx;replace hnx:=wH hnx;rw [decide_eq_false hc] at PL;replace PL:=wH PL
  go_wp2_with (first | (go_at_call 112;(with_reducible refine (PT.out _).mono ?_);rintro e w6 ⟨rfl,hb6⟩;replace B2:=d_ B2 hb6;replace C2:=C2.keep hb6;replace V:=V.keep hb6;replace L2:=L2.keep hb6;(have ⟨k0,k1,_,_,_⟩:=C2.box);(have ⟨v0,v1,v2⟩:=V.aK)) | (go_at_call 63;(with_reducible refine (PB.out _).mono ?_);rintro e w7 ⟨rfl,wg⟩;have yK:=(d_ B2 wg).size;replace B2:=(d_ B2 wg).alloc yK (.cells #[.int .i64 b1,.int .i64 b2,.int .i64 b3,.int .i64 b4] 33);replace C2:=(C2.keep wg).alloc (.cells #[.int .i64 b1,.int .i64 b2,.int .i64 b3,.int .i64 b4] 33);replace L2:=(L2.keep wg).alloc (.cells #[.int .i64 b1,.int .i64 b2,.int .i64 b3,.int .i64 b4] 33);have S:=aH.new w7 #[.int .i64 b1,.int .i64 b2,.int .i64 b3,.int .i64 b4] 33;(have ⟨t0,t1,t2,t3,_,_,_,_,_⟩:=S.aP);(have ⟨l0,l1,m0,m1,_⟩:=L2.box)) | (go_at_call 111;(with_reducible refine (PL.out _).mono ?_);rintro e w8 ⟨rfl,xB⟩;replace B2:=d_ B2 xB;replace C2:=C2.keep xB;replace L2:=L2.keep xB;replace S:=S.keep xB;(have ⟨t0,t1,t2,t3,_,_,_,_,_⟩:=S.aP);(have ⟨l0,l1,m0,m1,_⟩:=L2.box)))
  go_roundw
  case rel=>exact ⟨i+1,(bb,s2),_,c1,GB,by omega,by go_num,rfl,wH (fun _=>⟨rfl,E9.out.symm,FA.out.symm⟩),hnx,B2,C2,L2⟩
  case measure=>simp [intOf];omega
 obtain rfl:i=N:=by omega
 have hr0:res=some (s1,s2):=hres.out.symm.trans hs.out;subst hr0;obtain ⟨rfl,-,-⟩:=hcd.out (by omega);go_wp2;go_ret2;exact ⟨by rw [hval.out];rfl,B⟩
def fG (W:World) (h:Nat):Prop:=∃ X Y E:Int,aH W h 27 #[.int .i64 X,.int .i64 Y,.int .i64 E]
def bU (S:Nat) (W W':World):Prop:=∀ h,S≤h→fG W h→fG W' h
theorem bU.self (S:Nat) (W:World):bU S W W:=fun _ _ h=>h
theorem bU.below {S:Nat} {W W':World} (hb:Below W.heap.size W W'):bU S W W':=fun _ _ h=>by
 obtain ⟨X,Y,E,h⟩:=h;exact ⟨X,Y,E,h.keep hb⟩
theorem bU.grown {S g:Nat} {W W':World} (hg:W.grownBy W' (some g)) (hS:g<S):bU S W W':=fun _ hS2 h=>by
 obtain ⟨X,Y,E,h⟩:=h;exact ⟨X,Y,E,h.aR hg (by omega)⟩
theorem bU.put {S g:Nat} {W:World} (h:fG W g) (X Y E:Int):bU S W (((W.setCell ⟨g,0,none⟩ (.int .i64 X)).setCell ⟨g,1,none⟩ (.int .i64 Y)).setCell ⟨g,2,none⟩ (.int .i64 E)):=fun k _ hk=>by
 by_cases e:k=g
 ·subst e
  obtain ⟨X0,Y0,E0,h⟩:=h;exact ⟨X,Y,E,h.kV _ _ _⟩
 obtain ⟨X0,Y0,E0,hk⟩:=hk;exact ⟨X0,Y0,E0,((hk.other e _).other e _).other e _⟩
theorem bU.gE {S g:Nat} {W:World} (h:∃ a b:Int,aH W g 25 #[.int .i64 a,.int .i64 b]) (hT:(25:TypeId)≠27) (X Y:Int):bU S W ((W.setCell ⟨g,0,none⟩ (.int .i64 X)).setCell ⟨g,1,none⟩ (.int .i64 Y)):=fun k _ hk=>by
 obtain ⟨X0,Y0,E0,hk⟩:=hk
 have e:k≠g:=by
  rintro rfl;obtain ⟨a,b,h⟩:=h;unfold aH at h hk;rw [h] at hk;cases hk
 exact ⟨X0,Y0,E0,(hk.other e _).other e _⟩
def HJ (lo hi:Int) (u:Value):Prop:=∃ x:Int,(lo≤x∧x≤hi)∧u=.int .i64 x
def pa (u:Value):Prop:=∃ (X Y E:Int) (q:Bool),u=.tuple #[.agg #[.int .i64 X,.int .i64 Y,.int .i64 E],.bool q]
def qU (u:Value):Prop:=∃ X Y E:Int,u=.agg #[.int .i64 X,.int .i64 Y,.int .i64 E]
def kA (u:Value):Prop:=∃ q:Bool,u=.bool q
def nT (S:Nat) (u:Value) (W:World):Prop:=∃ h,u=.pointer (some ⟨h,0,none⟩)∧S≤h∧fG W h
theorem f9 (g B:Nat) (v:Value) (n K:Nat) (a b:Int) (w:World) (h:cN w g B v n K) (hk:K≤700000000) :
  Calls Tryz.prog 110 #[.pointer (some ⟨g,0,none⟩),.agg #[.int .i64 a,.int .i64 b]] w (pZ w g B v n (K+10)):=by
 have hl:=h.size;obtain ⟨wc,hw3,C,R,BB⟩:=el w #[.int .i64 a,.int .i64 b] 25 #[.int .i64 0,.int .i64 0,.int .i64 0] 27;have st:=(St.start h).keep BB;have hB:=st.lt;have hwc:=BB.size
 have nC:w.heap.size≠g:=by omega
 have nR:w.heap.size+1≠g:=by omega
 have hRl:=R.lt
 have HG:=fun w=>dO a b w
 clear h BB;go_enter Tryz.func110,Tryz.ntmps110
 go_wp2_with fail
 refine (gv g B v n _ 8 _ st.cur (by omega) (by omega) (by omega)).mono ?_;rintro e Oi ⟨t1,rfl,t_,j_⟩;replace st:=st.call t_ j_;have Is:=j_.size;replace C:=C.aR j_ nC;replace R:=R.aR j_ nR;clear t_ j_;have ⟨Fp,C_1,Bh,Bi,Fq⟩:=C.box;have ⟨zS,zT,Ha,wM,wN,wT⟩:=R.bF;have zU:=R.lt;cases t1
 case true=>
  go_wp2;exact bodyPost_ret (v:=.agg #[.int .i64 0,.int .i64 0,.int .i64 0]) (by simp [results,Tryz.results110,go_sem, *]) rfl (⟨0,0,0,rfl,(((st.aU (c:=w.heap.size+1) (o:=0) (by omega) (by omega) (by omega) (.int .i64 0)).aU (c:=w.heap.size+1) (o:=1) (by omega) (by omega) (by omega) (.int .i64 0)).aU (c:=w.heap.size+1) (o:=2) (by omega) (by omega) (by omega) (.int .i64 0)).cur.mono (by omega),(((st.aU (c:=w.heap.size+1) (o:=0) (by omega) (by omega) (by omega) (.int .i64 0)).aU (c:=w.heap.size+1) (o:=1) (by omega) (by omega) (by omega) (.int .i64 0)).aU (c:=w.heap.size+1) (o:=2) (by omega) (by omega) (by omega) (.int .i64 0)).gr⟩)
 case false=>
 cases hg:M.good a b <;> rw [hg] at HG <;> replace HG:=wH HG
 ·go_wp2_with fail
  refine (HG.out _).mono ?_;rintro e w9 ⟨rfl,wb⟩;clear Fp C_1 Bh Bi Fq;clear zS zT Ha wM wN wT zU;replace st:=st.keep wb;replace C:=C.keep wb;replace R:=R.keep wb;have ⟨Fp,C_1,Bh,Bi,Fq⟩:=C.box;have ⟨zS,zT,Ha,wM,wN,wT⟩:=R.bF;have zU:=R.lt;go_wp2;exact bodyPost_ret (v:=.agg #[.int .i64 0,.int .i64 0,.int .i64 0]) (by simp [results,Tryz.results110,go_sem, *]) rfl (⟨0,0,0,rfl,(((st.aU (c:=w.heap.size+1) (o:=0) (by omega) (by omega) (by omega) (.int .i64 0)).aU (c:=w.heap.size+1) (o:=1) (by omega) (by omega) (by omega) (.int .i64 0)).aU (c:=w.heap.size+1) (o:=2) (by omega) (by omega) (by omega) (.int .i64 0)).cur.mono (by omega),(((st.aU (c:=w.heap.size+1) (o:=0) (by omega) (by omega) (by omega) (.int .i64 0)).aU (c:=w.heap.size+1) (o:=1) (by omega) (by omega) (by omega) (.int .i64 0)).aU (c:=w.heap.size+1) (o:=2) (by omega) (by omega) (by omega) (.int .i64 0)).gr⟩)
 go_wp2_with fail
 refine (HG.out _).mono ?_;rintro e w9 ⟨rfl,wb⟩;clear Fp C_1 Bh Bi Fq;clear zS zT Ha wM wN wT zU;replace st:=st.keep wb;replace C:=C.keep wb;replace R:=R.keep wb;have sz9:=wb.size;clear wb HG;have hgd:=wH hg;clear hg
 go_wp2_with fail
 refine (cJ g B v n _ 60 _ st.cur (by omega) (by omega) (by omega)).mono ?_;rintro e w_f ⟨f,rfl,⟨f_lo,f_hi⟩,t_,j_⟩;replace st:=st.call t_ j_;have sz_f:=j_.size;replace C:=C.aR j_ nC;replace R:=R.aR j_ nR;clear t_ j_
 go_upto_region 4 with fail
 have hf1:-30≤f - 30:=by omega
 have hf2:f - 30≤29:=by omega
 generalize f - 30=F at *;go_wp2
 go_loopw [6] (fun vi wq=>∃ j:Nat,j≤60∧vi=.int .i64 j∧St w wq g B v n (K+2+2)∧aH wq w.heap.size 25 #[.int .i64 a,.int .i64 b]∧aH wq (w.heap.size+1) 27 #[.int .i64 0,.int .i64 0,.int .i64 0]) (fun vi _=>60 - (intOf vi).toNat)
 case atStart=>exact ⟨0,by omega,rfl,st,C,R⟩
 case round=>
 clear st C R;obtain ⟨j,hj,rfl,st,C,R⟩:=hrel
 by_cases hlt:j<60
 ·have hx1:-200≤F+(j:Int):=by omega
  have hx2:F+(j:Int)≤200:=by omega
  have PA:=wH fun W=>tR a b (F+(j:Int)) W hgd.out hx1 hx2
  have ⟨Fp,C_1,Bh,Bi,Fq⟩:=C.box
  go_wp2_with fail
  (refine (PA.out _).mono ?_);rintro e w7 ⟨A,l,cp,rfl,hl2,hP,hok,wg⟩
  clear Fp C_1 Bh Bi Fq;replace hok:=wH hok;have sz7:=wg.size;have zr7:=st.size;have zs7:=st.le;replace st:=st.keep wg;replace C:=C.keep wg;replace R:=R.keep wg;clear wg PA
  obtain ⟨m,hm⟩:∃ m,Hid (l.length=m):=⟨_,wH rfl⟩
  rw [hm.out] at hl2 ⊢;replace hP:=wH hP
  by_cases hm0:m=0
  ·subst hm0
   go_wp2
   go_roundw
   case rel=>exact ⟨j+1,by omega,by go_num,st,C,R⟩
   case measure=>simp [intOf];omega
  have hmp:(0:Int)<(m:Int):=by omega
  go_wp2_with fail
  refine (cJ g B v n _ m _ st.cur (by omega) (by omega) (by omega)).mono ?_;rintro e Jx ⟨i,rfl,⟨i_lo,i_hi⟩,t_,j_⟩
  obtain ⟨i,rfl⟩:∃ k:Nat,i=k:=⟨i.toNat,by omega⟩
  obtain ⟨⟨X,Y,E⟩,hp⟩:∃ p,l[i]?=some p:=⟨_,List.getElem?_eq_getElem (by have:=hm.out;omega)⟩
  obtain ⟨ga,rfl,hga,q0,q1,q2⟩:=hP.out i _ hp;have GO:=wH (And.intro hgd.out (hok.out _ (List.mem_of_getElem? hp)))
  dsimp only at q0 q1 q2 GO
  replace q0:=Gr.eC j_ q0 (by omega);replace q1:=Gr.eC j_ q1 (by omega);replace q2:=Gr.eC j_ q2 (by omega);clear hp hok hP hm;replace st:=st.call t_ j_;have sz_i:=j_.size;replace C:=C.aR j_ nC;replace R:=R.aR j_ nR;clear t_ j_
  have him:(i:Int)<(m:Int):=by omega
  have him2:i<m:=by omega
  have hRi:=R.lt;have hCi:=C.lt;have Q:=aH.new Jx #[.int .i64 X,.int .i64 Y,.int .i64 E] 27;have zi:=st.size;have zj:=st.le;replace st:=st.alloc (.cells #[.int .i64 X,.int .i64 Y,.int .i64 E] 27);replace C:=C.alloc (.cells #[.int .i64 X,.int .i64 Y,.int .i64 E] 27);replace R:=R.alloc (.cells #[.int .i64 X,.int .i64 Y,.int .i64 E] 27)
  have nQ:Jx.heap.size≠g:=by omega
  go_upto_region 10 with fail
  clear q0 q1 q2;generalize hG:Jx.heap.size=G at *;have Mg:=R.lt;have MQ:=C.lt;have hGl:=Q.lt;have hgr:=st.size;generalize Jx.alloc (.cells #[.int .i64 X,.int .i64 Y,.int .i64 E] 27)=wr at *;clear hG;refine Rg.eB (fun l W=>zV wr g B v n ((K+2+2+2)+Rg.yL [(3,2)] l) W) (fun i u W=>match i with | 3=>HJ 0 3 u | 4=>HJ (1) 4 u | 5=>pa u | 6=>pa u | 7=>qU u | 8=>kA u | 9=>nT wr.heap.size u W | 11=>kA u | _=>True) (bU wr.heap.size) [3,4,5,6,7,8,9,10,11] [.agg #[.int .i64 a,.int .i64 b],.agg #[.int .i64 X,.int .i64 Y,.int .i64 E],.pointer (some ⟨g,0,none⟩),undef,undef,undef,undef,undef,undef,undef,undef,undef] (by kernel_rfl) (by kernel_rfl) (by decide) (fun l l2 W h q=>by rw [←Rg.di (C:=[(3,2)]) (l:=l) fun p hp=>h p.1 (by revert p;decide)];exact q) (fun i u w1 w2 hR h=>match i,h with | 0,h=>(trivial) | 1,h=>(trivial) | 2,h=>(trivial) | 3,h=>(h) | 4,h=>(h) | 5,h=>(h) | 6,h=>(h) | 7,h=>(h) | 8,h=>(h) | 9,h=>(by obtain ⟨CZ,Dh,Fc,H9⟩:=h;exact ⟨CZ,Dh,Fc,hR CZ Fc H9⟩) | 10,h=>(trivial) | 11,h=>(h) | n_+12,_=>trivial) (zV.start st) ⟨?_,?_,?_,?_,?_,?_,?_,?_,?_,?_,?_,?_,trivial⟩ ?_
  ·unfold Rg.aS
   intro zZ w_ l_ i_ s_ wu xA xE ww t_ hr;refine ⟨rfl,?_⟩;rw [if_neg (by decide)];have e3:zZ.tmps[3]?=some (.pointer (some ⟨w.heap.size,0,none⟩)):=hr 3 (by decide);have wS:=C.aR s_.2 nC;have ⟨k0,k1,_,_,_⟩:=wS.box
   (first | (go_simp;done) | (go_simp;exact Rg.wr (by omega) (by omega)) | (go_simp;omega) | (go_simp;rfl) | (go_simp;exact ⟨rfl,rfl⟩))
  ·unfold Rg.aS
   intro zZ w_ l_ i_ s_ wu xA xE ww t_ hr;refine ⟨rfl,?_⟩;rw [if_neg (by decide)];have e8:zZ.tmps[8]?=some (.pointer (some ⟨G,0,none⟩)):=hr 8 (by decide);have wS:=Q.aR s_.2 nQ;have ⟨k0,k1,k2⟩:=wS.aK
   (first | (go_simp;done) | (go_simp;exact Rg.wr (by omega) (by omega)) | (go_simp;omega) | (go_simp;rfl) | (go_simp;exact ⟨rfl,rfl⟩))
  ·unfold Rg.aS
   intro zZ w_ l_ i_ s_ wu xA xE ww t_ hr;refine ⟨rfl,?_⟩;rw [if_neg (by decide)];have e0:zZ.tmps[0]?=some (.pointer (some ⟨g,0,none⟩)):=hr 0 (by decide)
   go_simp
  ·unfold Rg.aS
   intro zZ w_ l_ i_ s_ wu xA xE ww t_ hr;have e44:zZ.tmps[44]?=some (.pointer (some ⟨g,0,none⟩)):=hr 44 (by decide)
   have ef:∀ f,zZ.eval (.func f)=.func (.func f) #[] #[]:=fun _=>rfl
   have ec:=Rg.ec zZ;refine ⟨rfl,?_⟩;rw [if_pos (by decide)];have CA:=Rg.ez [(3,2)] l_;rw [show Rg.yL [(3,2)] (fun _=>true)=2 from rfl] at CA;refine Rg.fV (by go_simp;exact ⟨rfl,rfl⟩) ?_;refine (cJ g B v n _ 4 _ s_.1 (by omega) (by omega) (by omega)).mono ?_;rintro e_ EQ ⟨u_,rfl,Eu,y8,j_⟩;exact ⟨_,rfl,by (try dsimp only);rw [Rg.fa (c:=2) (by decide) rfl xA];exact s_.call y8 j_,⟨u_,Eu,rfl⟩,bU.grown j_ hgr⟩
  ·unfold Rg.aS
   intro zZ w_ l_ i_ s_ wu xA xE ww t_ hr;have e45:zZ.tmps[45]?=some (i_ 3):=hr 45 (by decide);have ec:=Rg.ec zZ;refine ⟨rfl,?_⟩;rw [if_pos (by decide)];obtain ⟨x_,⟨Dw,Dx⟩,xo⟩:=wu 3 (by decide) (ww 3 (by kernel_rfl));rw [xo] at e45;refine Rg.fK (x:=.int .i64 (1+x_)) (w2:=w_) (by (first | (go_simp;done) | (go_simp;exact Rg.wr (by omega) (by omega)) | (go_simp;omega) | (go_simp;rfl) | (go_simp;exact ⟨rfl,rfl⟩))) ?_;exact ⟨by (try dsimp only);rw [Rg.bC (by decide)];exact s_,⟨_,⟨by omega,by omega⟩,rfl⟩,bU.self _ _⟩
  ·unfold Rg.aS
   intro zZ w_ l_ i_ s_ wu xA xE ww t_ hr;have e42:zZ.tmps[42]?=some (.agg #[.int .i64 a,.int .i64 b]):=hr 42 (by decide);have e43:zZ.tmps[43]?=some (.agg #[.int .i64 X,.int .i64 Y,.int .i64 E]):=hr 43 (by decide);have e46:zZ.tmps[46]?=some (i_ 4):=hr 46 (by decide)
   have ef:∀ f,zZ.eval (.func f)=.func (.func f) #[] #[]:=fun _=>rfl
   refine ⟨rfl,?_⟩;rw [if_pos (by decide)];obtain ⟨x_,⟨Dw,Dx⟩,xo⟩:=wu 4 (by decide) (ww 4 (by kernel_rfl));rw [xo] at e46;refine Rg.fV (by go_simp;exact ⟨rfl,rfl⟩) ?_;refine (iZ a b X Y E x_ _ GO.out.1 GO.out.2 (by omega) (by omega)).mono ?_;rintro e_ EQ ⟨rfl,wZ⟩;exact ⟨_,rfl,by (try dsimp only);rw [Rg.bC (by decide)];exact s_.keep wZ,⟨_,_,_,_,rfl⟩,bU.below wZ⟩
  ·unfold Rg.aS
   intro zZ w_ l_ i_ s_ wu xA xE ww t_ hr;have e47:zZ.tmps[47]?=some (i_ 5):=hr 47 (by decide);refine ⟨rfl,?_⟩;rw [if_pos (by decide)];obtain ⟨X_,Y_,E_,q_,xo⟩:=wu 5 (by decide) (ww 5 (by kernel_rfl));rw [xo] at e47;refine Rg.fK (x:=.tuple #[.agg #[.int .i64 X_,.int .i64 Y_,.int .i64 E_],.bool q_]) (w2:=w_) (by (first | (go_simp;done) | (go_simp;exact Rg.wr (by omega) (by omega)) | (go_simp;omega) | (go_simp;rfl) | (go_simp;exact ⟨rfl,rfl⟩))) ?_;exact ⟨by (try dsimp only);rw [Rg.bC (by decide)];exact s_,⟨_,_,_,_,rfl⟩,bU.self _ _⟩
  ·unfold Rg.aS
   intro zZ w_ l_ i_ s_ wu xA xE ww t_ hr;have e41:zZ.tmps[41]?=some (i_ 6):=hr 41 (by decide);refine ⟨rfl,?_⟩;rw [if_pos (by decide)];obtain ⟨X_,Y_,E_,q_,xo⟩:=wu 6 (by decide) (ww 6 (by kernel_rfl));rw [xo] at e41;refine Rg.fK (x:=.agg #[.int .i64 X_,.int .i64 Y_,.int .i64 E_]) (w2:=w_) (by (first | (go_simp;done) | (go_simp;exact Rg.wr (by omega) (by omega)) | (go_simp;omega) | (go_simp;rfl) | (go_simp;exact ⟨rfl,rfl⟩))) ?_;exact ⟨by (try dsimp only);rw [Rg.bC (by decide)];exact s_,⟨_,_,_,rfl⟩,bU.self _ _⟩
  ·unfold Rg.aS
   intro zZ w_ l_ i_ s_ wu xA xE ww t_ hr;have e41:zZ.tmps[41]?=some (i_ 6):=hr 41 (by decide);refine ⟨rfl,?_⟩;rw [if_pos (by decide)];obtain ⟨X_,Y_,E_,q_,xo⟩:=wu 6 (by decide) (ww 6 (by kernel_rfl));rw [xo] at e41;refine Rg.fK (x:=.bool q_) (w2:=w_) (by (first | (go_simp;done) | (go_simp;exact Rg.wr (by omega) (by omega)) | (go_simp;omega) | (go_simp;rfl) | (go_simp;exact ⟨rfl,rfl⟩))) ?_;exact ⟨by (try dsimp only);rw [Rg.bC (by decide)];exact s_,⟨_,rfl⟩,bU.self _ _⟩
  ·unfold Rg.aS
   intro zZ w_ l_ i_ s_ wu xA xE ww t_ hr;refine ⟨rfl,?_⟩;rw [if_pos (by decide)];refine Rg.rU (x:=.pointer (some ⟨w_.heap.size,0,none⟩)) (ob:=.cells #[.int .i64 0,.int .i64 0,.int .i64 0] 27) (by (first | (go_simp;done) | (go_simp;exact Rg.wr (by omega) (by omega)) | (go_simp;omega) | (go_simp;rfl) | (go_simp;exact ⟨rfl,rfl⟩))) ?_;exact ⟨by (try dsimp only);rw [Rg.bC (by decide)];exact s_.keep (bA _ _),⟨_,rfl,s_.2.size,⟨0,0,0,aH.new _ _ _⟩⟩,bU.below (bA _ _)⟩
  ·unfold Rg.aS
   intro zZ w_ l_ i_ s_ wu xA xE ww t_ hr;have e9:zZ.tmps[9]?=some (i_ 9):=hr 9 (by decide);have e48:zZ.tmps[48]?=some (i_ 7):=hr 48 (by decide);refine ⟨rfl,?_⟩;rw [if_pos (by decide)];obtain ⟨h_,H8,wt,yn⟩:=wu 9 (by decide) (ww 9 (by kernel_rfl));rw [H8] at e9;obtain ⟨X_,Y_,E_,xo⟩:=wu 7 (by decide) (ww 7 (by kernel_rfl));rw [xo] at e48
   have p_:zV wr g B v n ((K+2+2+2)+Rg.yL [(3,2)] (Rg.upd l_ 10)) (((w_.setCell ⟨h_,0,none⟩ (.int .i64 X_)).setCell ⟨h_,1,none⟩ (.int .i64 Y_)).setCell ⟨h_,2,none⟩ (.int .i64 E_))∧True∧bU wr.heap.size w_ (((w_.setCell ⟨h_,0,none⟩ (.int .i64 X_)).setCell ⟨h_,1,none⟩ (.int .i64 Y_)).setCell ⟨h_,2,none⟩ (.int .i64 E_)):=⟨by (try dsimp only);rw [Rg.bC (by decide)];exact ((s_.put (by omega) (by omega) wt 0 _).put (by omega) (by omega) wt 1 _).put (by omega) (by omega) wt 2 _,trivial,bU.put yn _ _ _⟩
   obtain ⟨X0_,Y0_,E0_,yn⟩:=yn;have ⟨yz,y6,Bb,y7,ym,Ay⟩:=yn.bF;unfold Oper.wp
   go_simp
   all_goals first | exact p_ | exact p_.1 | exact ⟨undef,p_⟩ | exact ⟨_,rfl,p_⟩
  ·unfold Rg.aS
   intro zZ w_ l_ i_ s_ wu xA xE ww t_ hr;have e49:zZ.tmps[49]?=some (i_ 8):=hr 49 (by decide);refine ⟨rfl,?_⟩;rw [if_pos (by decide)];obtain ⟨q_,xo⟩:=wu 8 (by decide) (ww 8 (by kernel_rfl));rw [xo] at e49;refine Rg.fK (x:=.bool q_) (w2:=w_) (by (first | (go_simp;done) | (go_simp;exact Rg.wr (by omega) (by omega)) | (go_simp;omega) | (go_simp;rfl) | (go_simp;exact ⟨rfl,rfl⟩))) ?_;exact ⟨by (try dsimp only);rw [Rg.bC (by decide)];exact s_,⟨_,rfl⟩,bU.self _ _⟩
  intro vals wz s_ hF hv;obtain ⟨h_,yp,wt,XN,YN,EN,N⟩:=hF 9 (by decide);obtain ⟨ok,xI⟩:=hF 11 (by decide);simp only [Rg.ay,Rg.fill,Act.put,Nat.reduceAdd];clear hv hF;simp only [yp,xI];clear yp xI;replace s_:zV wr g B v n ((K+2+2+2)+2) wz:=s_;replace st:=st.call s_.1 s_.2;replace C:=C.aR s_.2 nC;replace R:=R.aR s_.2 nR;replace Q:=Q.aR s_.2 nQ;have szz:=s_.2.size;clear s_
  have nRN:w.heap.size+1≠h_:=by omega
  have nRG:w.heap.size+1≠G:=by omega
  have ⟨zS,zT,Ha,wM,wN,wT⟩:=R.bF;have zU:=R.lt;have ⟨BK,BL,BM,yc,yd,ye⟩:=Q.bF;have BN:=Q.lt;have ⟨N_0,N_1,N_2,J6,J7,J8⟩:=N.bF;have N_l:=N.lt;cases ok
  ·go_wp2
   exact bodyPost_ret (v:=.agg #[.int .i64 X,.int .i64 Y,.int .i64 E]) (by simp [results,Tryz.results110,go_sem, *]) rfl (⟨X,Y,E,rfl,(((st.aU (c:=w.heap.size+1) (o:=0) (by omega) (by omega) (by omega) (.int .i64 X)).aU (c:=w.heap.size+1) (o:=1) (by omega) (by omega) (by omega) (.int .i64 Y)).aU (c:=w.heap.size+1) (o:=2) (by omega) (by omega) (by omega) (.int .i64 E)).cur.mono (by omega),(((st.aU (c:=w.heap.size+1) (o:=0) (by omega) (by omega) (by omega) (.int .i64 X)).aU (c:=w.heap.size+1) (o:=1) (by omega) (by omega) (by omega) (.int .i64 Y)).aU (c:=w.heap.size+1) (o:=2) (by omega) (by omega) (by omega) (.int .i64 E)).gr⟩)
  go_wp2;exact bodyPost_ret (v:=.agg #[.int .i64 XN,.int .i64 YN,.int .i64 EN]) (by simp [results,Tryz.results110,go_sem, *]) rfl (⟨XN,YN,EN,rfl,(((st.aU (c:=w.heap.size+1) (o:=0) (by omega) (by omega) (by omega) (.int .i64 XN)).aU (c:=w.heap.size+1) (o:=1) (by omega) (by omega) (by omega) (.int .i64 YN)).aU (c:=w.heap.size+1) (o:=2) (by omega) (by omega) (by omega) (.int .i64 EN)).cur.mono (by omega),(((st.aU (c:=w.heap.size+1) (o:=0) (by omega) (by omega) (by omega) (.int .i64 XN)).aU (c:=w.heap.size+1) (o:=1) (by omega) (by omega) (by omega) (.int .i64 YN)).aU (c:=w.heap.size+1) (o:=2) (by omega) (by omega) (by omega) (.int .i64 EN)).gr⟩)
 obtain rfl:j=60:=by omega
 have ⟨zS,zT,Ha,wM,wN,wT⟩:=R.bF;have zU:=R.lt;go_wp2;exact bodyPost_ret (v:=.agg #[.int .i64 0,.int .i64 0,.int .i64 0]) (by simp [results,Tryz.results110,go_sem, *]) rfl (⟨0,0,0,rfl,(((st.aU (c:=w.heap.size+1) (o:=0) (by omega) (by omega) (by omega) (.int .i64 0)).aU (c:=w.heap.size+1) (o:=1) (by omega) (by omega) (by omega) (.int .i64 0)).aU (c:=w.heap.size+1) (o:=2) (by omega) (by omega) (by omega) (.int .i64 0)).cur.mono (by omega),(((st.aU (c:=w.heap.size+1) (o:=0) (by omega) (by omega) (by omega) (.int .i64 0)).aU (c:=w.heap.size+1) (o:=1) (by omega) (by omega) (by omega) (.int .i64 0)).aU (c:=w.heap.size+1) (o:=2) (by omega) (by omega) (by omega) (.int .i64 0)).gr⟩)
theorem nZ (g B:Nat) (v:Value) (n K:Nat) (w:World) (h:cN w g B v n K) (hk:K≤600000000) :
  Calls Tryz.prog 71 #[.pointer (some ⟨g,0,none⟩)] w (kC w g B v n (K+50)):=by
 have hl:=h.size;obtain ⟨wc,hw3,R,BB⟩:=ix w #[.int .i64 0,.int .i64 0] 25;have st:=(St.start h).keep BB;have hB:=st.lt;have hwc:=BB.size
 have nR:w.heap.size≠g:=by omega
 have hRl:=R.lt;clear h BB;go_enter Tryz.func71,Tryz.ntmps71
 go_wp2_with fail
 refine (sv g B v n _ _ st.cur (by omega)).mono ?_;rintro e yt ⟨a,b,rfl,t_,j_⟩;replace st:=st.call t_ j_;have C1:=j_.size;replace R:=R.aR j_ nR;clear t_ j_;have E:=aH.new yt #[.int .i64 a,.int .i64 b] 25;have zlE:=st.size;have zgE:=st.le;replace st:=st.alloc (.cells #[.int .i64 a,.int .i64 b] 25);replace R:=R.alloc (.cells #[.int .i64 a,.int .i64 b] 25)
 have nE:yt.heap.size≠g:=by omega
 go_wp2_with fail
 generalize yt.heap.size=G at *;refine (cJ g B v n _ 30 _ st.cur (by omega) (by omega) (by omega)).mono ?_;rintro e CV ⟨x,rfl,⟨JE,JD⟩,t_,j_⟩;replace st:=st.call t_ j_;have Iu:=j_.size;replace R:=R.aR j_ nR;replace E:=E.aR j_ nE;clear t_ j_
 by_cases x0:x=0
 ·subst x0
  go_wp2_with fail
  have xv:=st;replace st:=st.alloc (.cells #[.int .i64 (-1001),.int .i64 (-1000),.int .i64 1000,.int .i64 1001,.int .i64 (-9223372036854775808)] 3);replace R:=R.alloc (.cells #[.int .i64 (-1001),.int .i64 (-1000),.int .i64 1000,.int .i64 1001,.int .i64 (-9223372036854775808)] 3);replace E:=E.alloc (.cells #[.int .i64 (-1001),.int .i64 (-1000),.int .i64 1000,.int .i64 1001,.int .i64 (-9223372036854775808)] 3);refine (cI g B v n _ [-1001,-1000,1000,1001,-9223372036854775808] (CV).heap.size 5 _ st.cur (by omega) rfl (by omega) (by omega) (by have:=xv.size;omega) (bT _ _ _)).mono ?_;rintro e CW ⟨y,rfl,-,t_,j_⟩;replace st:=st.call t_ j_;have CU:=j_.size;replace R:=R.aR j_ nR;replace E:=E.aR j_ nE;clear t_ j_;clear xv;have ⟨DD,DE,AB,AC,DF⟩:=E.box
  go_upto_region 9 with fail
  clear DD DE AB AC DF;replace E:aH _ G 25 #[.int .i64 y,.int .i64 b]:=E.set 0 (.int .i64 y)
  replace st:=(st.aU (c:=G) (o:=0) (by omega) (by omega) (by omega) (.int .i64 y))
  replace R:=(R.other (k:=G) (i:=0) (by omega) (.int .i64 y))
  generalize (CW.setCell ⟨G,0,none⟩ (.int .i64 y))=w8 at *;have ⟨zS,zT,wM,wN,zU⟩:=R.box;have ⟨DD,DE,AB,AC,DF⟩:=E.box;go_wp2;exact bodyPost_ret (v:=.agg #[.int .i64 y,.int .i64 b]) (by simp [results,Tryz.results71,go_sem, *]) rfl (⟨y,b,rfl,((st.aU (c:=w.heap.size) (o:=0) (by omega) (by omega) (by omega) (.int .i64 y)).aU (c:=w.heap.size) (o:=1) (by omega) (by omega) (by omega) (.int .i64 b)).cur.mono (by omega),((st.aU (c:=w.heap.size) (o:=0) (by omega) (by omega) (by omega) (.int .i64 y)).aU (c:=w.heap.size) (o:=1) (by omega) (by omega) (by omega) (.int .i64 b)).gr⟩)
 by_cases x1:x=1
 ·subst x1
  go_wp2_with fail
  have xv:=st;replace st:=st.alloc (.cells #[.int .i64 (-10001),.int .i64 (-10000),.int .i64 10000,.int .i64 10001,.int .i64 9223372036854775807] 3);replace R:=R.alloc (.cells #[.int .i64 (-10001),.int .i64 (-10000),.int .i64 10000,.int .i64 10001,.int .i64 9223372036854775807] 3);replace E:=E.alloc (.cells #[.int .i64 (-10001),.int .i64 (-10000),.int .i64 10000,.int .i64 10001,.int .i64 9223372036854775807] 3);refine (cI g B v n _ [-10001,-10000,10000,10001,9223372036854775807] (CV).heap.size 5 _ st.cur (by omega) rfl (by omega) (by omega) (by have:=xv.size;omega) (bT _ _ _)).mono ?_;rintro e CW ⟨y,rfl,-,t_,j_⟩;replace st:=st.call t_ j_;have CU:=j_.size;replace R:=R.aR j_ nR;replace E:=E.aR j_ nE;clear t_ j_;clear xv;have ⟨DD,DE,AB,AC,DF⟩:=E.box
  go_upto_region 9 with fail
  clear DD DE AB AC DF;replace E:aH _ G 25 #[.int .i64 a,.int .i64 y]:=E.set 1 (.int .i64 y)
  replace st:=(st.aU (c:=G) (o:=1) (by omega) (by omega) (by omega) (.int .i64 y))
  replace R:=(R.other (k:=G) (i:=1) (by omega) (.int .i64 y))
  generalize (CW.setCell ⟨G,1,none⟩ (.int .i64 y))=w8 at *;have ⟨zS,zT,wM,wN,zU⟩:=R.box;have ⟨DD,DE,AB,AC,DF⟩:=E.box;go_wp2;exact bodyPost_ret (v:=.agg #[.int .i64 a,.int .i64 y]) (by simp [results,Tryz.results71,go_sem, *]) rfl (⟨a,y,rfl,((st.aU (c:=w.heap.size) (o:=0) (by omega) (by omega) (by omega) (.int .i64 a)).aU (c:=w.heap.size) (o:=1) (by omega) (by omega) (by omega) (.int .i64 y)).cur.mono (by omega),((st.aU (c:=w.heap.size) (o:=0) (by omega) (by omega) (by omega) (.int .i64 a)).aU (c:=w.heap.size) (o:=1) (by omega) (by omega) (by omega) (.int .i64 y)).gr⟩)
 by_cases x2:x=2
 ·subst x2
  go_wp2_with fail
  have xv:=st;replace st:=st.alloc (.cells #[.int .i64 0,.int .i64 (-3),.int .i64 (-12)] 3);replace R:=R.alloc (.cells #[.int .i64 0,.int .i64 (-3),.int .i64 (-12)] 3);replace E:=E.alloc (.cells #[.int .i64 0,.int .i64 (-3),.int .i64 (-12)] 3);refine (cI g B v n _ [0,-3,-12] (CV).heap.size 3 _ st.cur (by omega) rfl (by omega) (by omega) (by have:=xv.size;omega) (bT _ _ _)).mono ?_;rintro e CW ⟨y,rfl,-,t_,j_⟩;replace st:=st.call t_ j_;have CU:=j_.size;replace R:=R.aR j_ nR;replace E:=E.aR j_ nE;clear t_ j_;clear xv
  go_wp2_with fail
  have xv:=st;replace st:=st.alloc (.cells #[.int .i64 0,.int .i64 2,.int .i64 16] 3);replace R:=R.alloc (.cells #[.int .i64 0,.int .i64 2,.int .i64 16] 3);replace E:=E.alloc (.cells #[.int .i64 0,.int .i64 2,.int .i64 16] 3);refine (cI g B v n _ [0,2,16] (CW).heap.size 3 _ st.cur (by omega) rfl (by omega) (by omega) (by have:=xv.size;omega) (bT _ _ _)).mono ?_;rintro e w_z ⟨z,rfl,-,t_,j_⟩;replace st:=st.call t_ j_;have Od:=j_.size;replace R:=R.aR j_ nR;replace E:=E.aR j_ nE;clear t_ j_;clear xv;have ⟨DD,DE,AB,AC,DF⟩:=E.box
  go_upto_region 9 with fail
  clear DD DE AB AC DF;replace E:aH _ G 25 #[.int .i64 y,.int .i64 z]:=(E.set 0 (.int .i64 y)).set 1 (.int .i64 z)
  replace st:=((st.aU (c:=G) (o:=0) (by omega) (by omega) (by omega) (.int .i64 y)).aU (c:=G) (o:=1) (by omega) (by omega) (by omega) (.int .i64 z))
  replace R:=((R.other (k:=G) (i:=0) (by omega) (.int .i64 y)).other (k:=G) (i:=1) (by omega) (.int .i64 z))
  generalize ((w_z.setCell ⟨G,0,none⟩ (.int .i64 y)).setCell ⟨G,1,none⟩ (.int .i64 z))=w8 at *;have ⟨zS,zT,wM,wN,zU⟩:=R.box;have ⟨DD,DE,AB,AC,DF⟩:=E.box;go_wp2;exact bodyPost_ret (v:=.agg #[.int .i64 y,.int .i64 z]) (by simp [results,Tryz.results71,go_sem, *]) rfl (⟨y,z,rfl,((st.aU (c:=w.heap.size) (o:=0) (by omega) (by omega) (by omega) (.int .i64 y)).aU (c:=w.heap.size) (o:=1) (by omega) (by omega) (by omega) (.int .i64 z)).cur.mono (by omega),((st.aU (c:=w.heap.size) (o:=0) (by omega) (by omega) (by omega) (.int .i64 y)).aU (c:=w.heap.size) (o:=1) (by omega) (by omega) (by omega) (.int .i64 z)).gr⟩)
 have b0:(x == 0)=false:=by simpa using x0
 have b1:(x == 1)=false:=by simpa using x1
 have b2:(x == 2)=false:=by simpa using x2
 have ⟨zS,zT,wM,wN,zU⟩:=R.box;have ⟨DD,DE,AB,AC,DF⟩:=E.box;go_wp2;exact bodyPost_ret (v:=.agg #[.int .i64 a,.int .i64 b]) (by simp [results,Tryz.results71,go_sem, *]) rfl (⟨a,b,rfl,((st.aU (c:=w.heap.size) (o:=0) (by omega) (by omega) (by omega) (.int .i64 a)).aU (c:=w.heap.size) (o:=1) (by omega) (by omega) (by omega) (.int .i64 b)).cur.mono (by omega),((st.aU (c:=w.heap.size) (o:=0) (by omega) (by omega) (by omega) (.int .i64 a)).aU (c:=w.heap.size) (o:=1) (by omega) (by omega) (by omega) (.int .i64 b)).gr⟩)
theorem dt (g B:Nat) (v:Value) (n K:Nat) (w:World) (h:cN w g B v n K) (hk:K≤500000000) :
  Calls Tryz.prog 99 #[.pointer (some ⟨g,0,none⟩)] w (pU w g B v n (K+100)):=by
 have hl:=h.size;obtain ⟨wc,hw3,R,Q,BB⟩:=el w #[.int .i64 0,.int .i64 0] 25 #[.int .i64 0,.int .i64 0,.int .i64 0] 27;have st:=(St.start h).keep BB;have hB:=st.lt;have hwc:=BB.size
 have nR:w.heap.size≠g:=by omega
 have nQ:w.heap.size+1≠g:=by omega
 clear h BB;go_enter Tryz.func99,Tryz.ntmps99
 go_wp2_with fail
 refine (qC g B v n _ _ st.cur (by omega)).mono ?_;rintro e yt ⟨a,b,X,Y,E,rfl,GO,t_,j_⟩;replace st:=st.call t_ j_;have C1:=j_.size;replace R:=R.aR j_ nR;replace Q:=Q.aR j_ nQ;clear t_ j_;have zrc:=R.lt;have zqc:=Q.lt;have C:=aH.new yt #[.int .i64 a,.int .i64 b] 25;have J4:=st.size;have J3:=st.le;replace st:=st.alloc (.cells #[.int .i64 a,.int .i64 b] 25);replace R:=R.alloc (.cells #[.int .i64 a,.int .i64 b] 25);replace Q:=Q.alloc (.cells #[.int .i64 a,.int .i64 b] 25)
 have nC:yt.heap.size≠g:=by omega
 have U:=aH.new (yt.alloc (.cells #[.int .i64 a,.int .i64 b] 25)) #[.int .i64 X,.int .i64 Y,.int .i64 E] 27;have zlU:=st.size;have zgU:=st.le;replace st:=st.alloc (.cells #[.int .i64 X,.int .i64 Y,.int .i64 E] 27);replace R:=R.alloc (.cells #[.int .i64 X,.int .i64 Y,.int .i64 E] 27);replace Q:=Q.alloc (.cells #[.int .i64 X,.int .i64 Y,.int .i64 E] 27);replace C:=C.alloc (.cells #[.int .i64 X,.int .i64 Y,.int .i64 E] 27);rw [wI] at U zlU zgU
 have nU:yt.heap.size+1≠g:=by omega
 go_wp2_with fail
 generalize yt.heap.size=G at *;refine (gv g B v n _ 3 _ st.cur (by omega) (by omega) (by omega)).mono ?_;rintro e HX ⟨t,rfl,t_,j_⟩;replace st:=st.call t_ j_;have sz_t:=j_.size;replace R:=R.aR j_ nR;replace Q:=Q.aR j_ nQ;replace C:=C.aR j_ nC;replace U:=U.aR j_ nU;clear t_ j_
 go_upto_if 15 with fail
 go_cut [] from 6 to 26 (fun wx=>St w wx g B v n (K+20+2+2)∧aH wx w.heap.size 25 #[.int .i64 0,.int .i64 0]∧aH wx (w.heap.size+1) 27 #[.int .i64 0,.int .i64 0,.int .i64 0]∧aH wx G 25 #[.int .i64 a,.int .i64 b]∧fG wx (G+1))
 case first=>as_aux_lemma=>
  cases t
  case false=>
   go_wp2
   go_meet
   exact ⟨st.up (by omega),R,Q,C,⟨X,Y,E,U⟩⟩
  case true=>
  go_upto_region 3 with fail
  have Mg:=R.lt;have MQ:=C.lt;have hUl:=U.lt;have Mf:=Q.lt;have hgr:=st.size;refine Rg.eB (fun l W=>zV HX g B v n ((K+20+2)+Rg.yL [(3,2)] l) W) (fun i u W=>match i with | 3=>HJ 0 8 u | 4=>HJ (-4) 4 u | 5=>pa u | 6=>pa u | 7=>qU u | 8=>kA u | 9=>nT HX.heap.size u W | 11=>kA u | _=>True) (bU HX.heap.size) [3,4,5,6,7,8,9,10,11] [.agg #[.int .i64 a,.int .i64 b],.agg #[.int .i64 X,.int .i64 Y,.int .i64 E],.pointer (some ⟨g,0,none⟩),undef,undef,undef,undef,undef,undef,undef,undef,undef] (by kernel_rfl) (by kernel_rfl) (by decide) (fun l l2 W h q=>by rw [←Rg.di (C:=[(3,2)]) (l:=l) fun p hp=>h p.1 (by revert p;decide)];exact q) (fun i u w1 w2 hR h=>match i,h with | 0,h=>(trivial) | 1,h=>(trivial) | 2,h=>(trivial) | 3,h=>(h) | 4,h=>(h) | 5,h=>(h) | 6,h=>(h) | 7,h=>(h) | 8,h=>(h) | 9,h=>(by obtain ⟨CZ,Dh,Fc,H9⟩:=h;exact ⟨CZ,Dh,Fc,hR CZ Fc H9⟩) | 10,h=>(trivial) | 11,h=>(h) | n_+12,_=>trivial) (zV.start st) ⟨?_,?_,?_,?_,?_,?_,?_,?_,?_,?_,?_,?_,trivial⟩ ?_
  ·unfold Rg.aS
   intro zZ w_ l_ i_ s_ wu xA xE ww t_ hr;refine ⟨rfl,?_⟩;rw [if_neg (by decide)];have e4:zZ.tmps[4]?=some (.pointer (some ⟨G,0,none⟩)):=hr 4 (by decide);have wS:=C.aR s_.2 nC;have ⟨k0,k1,_,_,_⟩:=wS.box
   (first | (go_simp;done) | (go_simp;exact Rg.wr (by omega) (by omega)) | (go_simp;omega) | (go_simp;rfl) | (go_simp;exact ⟨rfl,rfl⟩))
  ·unfold Rg.aS
   intro zZ w_ l_ i_ s_ wu xA xE ww t_ hr;refine ⟨rfl,?_⟩;rw [if_neg (by decide)];have e5:zZ.tmps[5]?=some (.pointer (some ⟨G+1,0,none⟩)):=hr 5 (by decide);have wS:=U.aR s_.2 nU;have ⟨k0,k1,k2⟩:=wS.aK
   (first | (go_simp;done) | (go_simp;exact Rg.wr (by omega) (by omega)) | (go_simp;omega) | (go_simp;rfl) | (go_simp;exact ⟨rfl,rfl⟩))
  ·unfold Rg.aS
   intro zZ w_ l_ i_ s_ wu xA xE ww t_ hr;refine ⟨rfl,?_⟩;rw [if_neg (by decide)];have e0:zZ.tmps[0]?=some (.pointer (some ⟨g,0,none⟩)):=hr 0 (by decide)
   go_simp
  ·unfold Rg.aS
   intro zZ w_ l_ i_ s_ wu xA xE ww t_ hr;have e19:zZ.tmps[19]?=some (.pointer (some ⟨g,0,none⟩)):=hr 19 (by decide)
   have ef:∀ f,zZ.eval (.func f)=.func (.func f) #[] #[]:=fun _=>rfl
   have ec:=Rg.ec zZ;refine ⟨rfl,?_⟩;rw [if_pos (by decide)];have CA:=Rg.ez [(3,2)] l_;rw [show Rg.yL [(3,2)] (fun _=>true)=2 from rfl] at CA;refine Rg.fV (by go_simp;exact ⟨rfl,rfl⟩) ?_;refine (cJ g B v n _ 9 _ s_.1 (by omega) (by omega) (by omega)).mono ?_;rintro e_ EQ ⟨u_,rfl,Eu,y8,j_⟩;exact ⟨_,rfl,by (try dsimp only);rw [Rg.fa (c:=2) (by decide) rfl xA];exact s_.call y8 j_,⟨u_,Eu,rfl⟩,bU.grown j_ hgr⟩
  ·unfold Rg.aS
   intro zZ w_ l_ i_ s_ wu xA xE ww t_ hr;have e20:zZ.tmps[20]?=some (i_ 3):=hr 20 (by decide);have ec:=Rg.ec zZ;refine ⟨rfl,?_⟩;rw [if_pos (by decide)];obtain ⟨x_,⟨Dw,Dx⟩,xo⟩:=wu 3 (by decide) (ww 3 (by kernel_rfl));rw [xo] at e20;refine Rg.fK (x:=.int .i64 (x_ - 4)) (w2:=w_) (by (first | (go_simp;done) | (go_simp;exact Rg.wr (by omega) (by omega)) | (go_simp;omega) | (go_simp;rfl) | (go_simp;exact ⟨rfl,rfl⟩))) ?_;exact ⟨by (try dsimp only);rw [Rg.bC (by decide)];exact s_,⟨_,⟨by omega,by omega⟩,rfl⟩,bU.self _ _⟩
  ·unfold Rg.aS
   intro zZ w_ l_ i_ s_ wu xA xE ww t_ hr;have e17:zZ.tmps[17]?=some (.agg #[.int .i64 a,.int .i64 b]):=hr 17 (by decide);have e18:zZ.tmps[18]?=some (.agg #[.int .i64 X,.int .i64 Y,.int .i64 E]):=hr 18 (by decide);have e21:zZ.tmps[21]?=some (i_ 4):=hr 21 (by decide)
   have ef:∀ f,zZ.eval (.func f)=.func (.func f) #[] #[]:=fun _=>rfl
   refine ⟨rfl,?_⟩;rw [if_pos (by decide)];obtain ⟨x_,⟨Dw,Dx⟩,xo⟩:=wu 4 (by decide) (ww 4 (by kernel_rfl));rw [xo] at e21;refine Rg.fV (by go_simp;exact ⟨rfl,rfl⟩) ?_;refine (iZ a b X Y E x_ _ GO.out.1 GO.out.2 (by omega) (by omega)).mono ?_;rintro e_ EQ ⟨rfl,wZ⟩;exact ⟨_,rfl,by (try dsimp only);rw [Rg.bC (by decide)];exact s_.keep wZ,⟨_,_,_,_,rfl⟩,bU.below wZ⟩
  ·unfold Rg.aS
   intro zZ w_ l_ i_ s_ wu xA xE ww t_ hr;have e22:zZ.tmps[22]?=some (i_ 5):=hr 22 (by decide);refine ⟨rfl,?_⟩;rw [if_pos (by decide)];obtain ⟨X_,Y_,E_,q_,xo⟩:=wu 5 (by decide) (ww 5 (by kernel_rfl));rw [xo] at e22;refine Rg.fK (x:=.tuple #[.agg #[.int .i64 X_,.int .i64 Y_,.int .i64 E_],.bool q_]) (w2:=w_) (by (first | (go_simp;done) | (go_simp;exact Rg.wr (by omega) (by omega)) | (go_simp;omega) | (go_simp;rfl) | (go_simp;exact ⟨rfl,rfl⟩))) ?_;exact ⟨by (try dsimp only);rw [Rg.bC (by decide)];exact s_,⟨_,_,_,_,rfl⟩,bU.self _ _⟩
  ·unfold Rg.aS
   intro zZ w_ l_ i_ s_ wu xA xE ww t_ hr;have e16:zZ.tmps[16]?=some (i_ 6):=hr 16 (by decide);refine ⟨rfl,?_⟩;rw [if_pos (by decide)];obtain ⟨X_,Y_,E_,q_,xo⟩:=wu 6 (by decide) (ww 6 (by kernel_rfl));rw [xo] at e16;refine Rg.fK (x:=.agg #[.int .i64 X_,.int .i64 Y_,.int .i64 E_]) (w2:=w_) (by (first | (go_simp;done) | (go_simp;exact Rg.wr (by omega) (by omega)) | (go_simp;omega) | (go_simp;rfl) | (go_simp;exact ⟨rfl,rfl⟩))) ?_;exact ⟨by (try dsimp only);rw [Rg.bC (by decide)];exact s_,⟨_,_,_,rfl⟩,bU.self _ _⟩
  ·unfold Rg.aS
   intro zZ w_ l_ i_ s_ wu xA xE ww t_ hr;have e16:zZ.tmps[16]?=some (i_ 6):=hr 16 (by decide);refine ⟨rfl,?_⟩;rw [if_pos (by decide)];obtain ⟨X_,Y_,E_,q_,xo⟩:=wu 6 (by decide) (ww 6 (by kernel_rfl));rw [xo] at e16;refine Rg.fK (x:=.bool q_) (w2:=w_) (by (first | (go_simp;done) | (go_simp;exact Rg.wr (by omega) (by omega)) | (go_simp;omega) | (go_simp;rfl) | (go_simp;exact ⟨rfl,rfl⟩))) ?_;exact ⟨by (try dsimp only);rw [Rg.bC (by decide)];exact s_,⟨_,rfl⟩,bU.self _ _⟩
  ·unfold Rg.aS
   intro zZ w_ l_ i_ s_ wu xA xE ww t_ hr;refine ⟨rfl,?_⟩;rw [if_pos (by decide)];refine Rg.rU (x:=.pointer (some ⟨w_.heap.size,0,none⟩)) (ob:=.cells #[.int .i64 0,.int .i64 0,.int .i64 0] 27) (by (first | (go_simp;done) | (go_simp;exact Rg.wr (by omega) (by omega)) | (go_simp;omega) | (go_simp;rfl) | (go_simp;exact ⟨rfl,rfl⟩))) ?_;exact ⟨by (try dsimp only);rw [Rg.bC (by decide)];exact s_.keep (bA _ _),⟨_,rfl,s_.2.size,⟨0,0,0,aH.new _ _ _⟩⟩,bU.below (bA _ _)⟩
  ·unfold Rg.aS
   intro zZ w_ l_ i_ s_ wu xA xE ww t_ hr;have e6:zZ.tmps[6]?=some (i_ 9):=hr 6 (by decide);have e23:zZ.tmps[23]?=some (i_ 7):=hr 23 (by decide);refine ⟨rfl,?_⟩;rw [if_pos (by decide)];obtain ⟨h_,H8,wt,yn⟩:=wu 9 (by decide) (ww 9 (by kernel_rfl));rw [H8] at e6;obtain ⟨X_,Y_,E_,xo⟩:=wu 7 (by decide) (ww 7 (by kernel_rfl));rw [xo] at e23
   have p_:zV HX g B v n ((K+20+2)+Rg.yL [(3,2)] (Rg.upd l_ 10)) (((w_.setCell ⟨h_,0,none⟩ (.int .i64 X_)).setCell ⟨h_,1,none⟩ (.int .i64 Y_)).setCell ⟨h_,2,none⟩ (.int .i64 E_))∧True∧bU HX.heap.size w_ (((w_.setCell ⟨h_,0,none⟩ (.int .i64 X_)).setCell ⟨h_,1,none⟩ (.int .i64 Y_)).setCell ⟨h_,2,none⟩ (.int .i64 E_)):=⟨by (try dsimp only);rw [Rg.bC (by decide)];exact ((s_.put (by omega) (by omega) wt 0 _).put (by omega) (by omega) wt 1 _).put (by omega) (by omega) wt 2 _,trivial,bU.put yn _ _ _⟩
   obtain ⟨X0_,Y0_,E0_,yn⟩:=yn;have ⟨yz,y6,Bb,y7,ym,Ay⟩:=yn.bF;unfold Oper.wp
   go_simp
   all_goals first | exact p_ | exact p_.1 | exact ⟨undef,p_⟩ | exact ⟨_,rfl,p_⟩
  ·unfold Rg.aS
   intro zZ w_ l_ i_ s_ wu xA xE ww t_ hr;have e24:zZ.tmps[24]?=some (i_ 8):=hr 24 (by decide);refine ⟨rfl,?_⟩;rw [if_pos (by decide)];obtain ⟨q_,xo⟩:=wu 8 (by decide) (ww 8 (by kernel_rfl));rw [xo] at e24;refine Rg.fK (x:=.bool q_) (w2:=w_) (by (first | (go_simp;done) | (go_simp;exact Rg.wr (by omega) (by omega)) | (go_simp;omega) | (go_simp;rfl) | (go_simp;exact ⟨rfl,rfl⟩))) ?_;exact ⟨by (try dsimp only);rw [Rg.bC (by decide)];exact s_,⟨_,rfl⟩,bU.self _ _⟩
  intro vals wz s_ hF hv;obtain ⟨h_,yp,wt,XN,YN,EN,N⟩:=hF 9 (by decide);obtain ⟨ok,xI⟩:=hF 11 (by decide);simp only [Rg.ay,Rg.fill,Act.put,Nat.reduceAdd];clear hv hF;simp only [yp,xI];clear yp xI;replace s_:zV HX g B v n ((K+20+2)+2) wz:=s_;replace st:=st.call s_.1 s_.2;replace R:=R.aR s_.2 nR;replace Q:=Q.aR s_.2 nQ;replace C:=C.aR s_.2 nC;replace U:=U.aR s_.2 nU;have szz:=s_.2.size;clear s_;have ⟨Cm,Cn,Co,xS,xT,zo⟩:=U.bF;have Cp:=U.lt;have ⟨N_0,N_1,N_2,J6,J7,J8⟩:=N.bF;have N_l:=N.lt;cases ok
  ·go_wp2
   go_meet
   exact ⟨st.up (by omega),R,Q,C,⟨X,Y,E,U⟩⟩
  go_wp2
  go_meet
  exact ⟨((((st.aU (c:=G+1) (o:=0) (by omega) (by omega) (by omega) _).aU (c:=G+1) (o:=1) (by omega) (by omega) (by omega) _).aU (c:=G+1) (o:=2) (by omega) (by omega) (by omega) _)).up (by omega),((R.other (by omega) _).other (by omega) _).other (by omega) _,((Q.other (by omega) _).other (by omega) _).other (by omega) _,((C.other (by omega) _).other (by omega) _).other (by omega) _,⟨XN,YN,EN,U.qM _ _ _⟩⟩
 case rest=>as_aux_lemma=>
 clear st R Q C U;obtain ⟨st,R,Q,C,X1,Y1,E1,U⟩:=hcut;clear GO;have szx:=U.lt
 go_wp2_with fail
 refine (cJ g B v n _ 24 _ st.cur (by omega) (by omega) (by omega)).mono ?_;rintro e CV ⟨x,rfl,⟨JE,JD⟩,t_,j_⟩;replace st:=st.call t_ j_;have Iu:=j_.size;replace R:=R.aR j_ nR;replace Q:=Q.aR j_ nQ;replace C:=C.aR j_ nC;replace U:=U.aR j_ nU;clear t_ j_
 by_cases x0:x=0
 ·subst x0
  have ⟨Cm,Cn,Co,xS,xT,zo⟩:=U.bF;have Cp:=U.lt
  go_wp2_with fail
  clear Cm Cn Co xS xT zo Cp;have xv:=st;replace st:=st.alloc (.cells #[.int .i64 10001,.int .i64 (-10001),.int .i64 (wrap64 (X1+1))] 3);replace R:=R.alloc (.cells #[.int .i64 10001,.int .i64 (-10001),.int .i64 (wrap64 (X1+1))] 3);replace Q:=Q.alloc (.cells #[.int .i64 10001,.int .i64 (-10001),.int .i64 (wrap64 (X1+1))] 3);replace C:=C.alloc (.cells #[.int .i64 10001,.int .i64 (-10001),.int .i64 (wrap64 (X1+1))] 3);replace U:=U.alloc (.cells #[.int .i64 10001,.int .i64 (-10001),.int .i64 (wrap64 (X1+1))] 3);refine (cI g B v n _ [10001,-10001,wrap64 (X1+1)] (CV).heap.size 3 _ st.cur (by omega) rfl (by omega) (by omega) (by have:=xv.size;omega) (bT _ _ _)).mono ?_;rintro e CW ⟨y,rfl,-,t_,j_⟩;replace st:=st.call t_ j_;have CU:=j_.size;replace R:=R.aR j_ nR;replace Q:=Q.aR j_ nQ;replace C:=C.aR j_ nC;replace U:=U.aR j_ nU;clear t_ j_;clear xv;have ⟨Cm,Cn,Co,xS,xT,zo⟩:=U.bF;have Cp:=U.lt
  go_upto_region 18 with fail
  clear Cm Cn Co xS xT zo Cp;replace U:aH _ (G+1) 27 #[.int .i64 y,.int .i64 Y1,.int .i64 E1]:=U.set 0 (.int .i64 y);replace st:=st.aU (c:=G+1) (o:=0) (by omega) (by omega) (by omega) (.int .i64 y);replace R:=R.other (k:=G+1) (i:=0) (by omega) (.int .i64 y);replace Q:=Q.other (k:=G+1) (i:=0) (by omega) (.int .i64 y);replace C:=C.other (k:=G+1) (i:=0) (by omega) (.int .i64 y);generalize CW.setCell ⟨G+1,0,none⟩ (.int .i64 y)=w8 at *
  have TW:zW w g B v n (K+100) w.heap.size (w.heap.size+1) [(G,25,#[.int .i64 a,.int .i64 b]),(G+1,27,#[.int .i64 y,.int .i64 Y1,.int .i64 E1])] 25 27 _ _ w8:=⟨⟨st.cur.mono (by omega),st.gr⟩,fun x hx=>(by rcases List.mem_cons.1 hx with rfl | hx;exact C;rcases List.mem_cons.1 hx with rfl | hx;exact U;cases hx),R,Q,⟨wL _,by omega,by omega,by omega,by omega⟩,fun x hx=>(by rcases List.mem_cons.1 hx with rfl | hx;(show w.heap.size+1<G;omega);rcases List.mem_cons.1 hx with rfl | hx;(show w.heap.size+1<G+1;omega);cases hx)⟩
  clear st R Q C U;refine Rg.eB (fun l W=>zW w g B v n (K+100) w.heap.size (w.heap.size+1) [(G,25,#[.int .i64 a,.int .i64 b]),(G+1,27,#[.int .i64 y,.int .i64 Y1,.int .i64 E1])] 25 27 (bif l 2 then #[.int .i64 a,.int .i64 b] else #[.int .i64 0,.int .i64 0]) (bif l 3 then #[.int .i64 y,.int .i64 Y1,.int .i64 E1] else #[.int .i64 0,.int .i64 0,.int .i64 0]) W) (fun _ _ _=>True) (fun _ _=>True) [2,3] [.agg #[.int .i64 a,.int .i64 b],.agg #[.int .i64 y,.int .i64 Y1,.int .i64 E1],undef,undef] (by kernel_rfl) (by kernel_rfl) (by decide) (fun l l2 W h q=>by rw [←h 2 (by decide),←h 3 (by decide)];exact q) (fun _ _ _ _ _ _=>trivial) TW.drew ⟨?_,?_,?_,?_,trivial⟩ ?_
  ·unfold Rg.aS
   intro zZ w_ l_ i_ s_ wu xA xE ww t_ hr;refine ⟨rfl,?_⟩;rw [if_neg (by decide)];have e4:zZ.tmps[4]?=some (.pointer (some ⟨G,0,none⟩)):=hr 4 (by decide);have wS:aH w_ G 25 #[.int .i64 a,.int .i64 b]:=s_.hV (G,25,#[.int .i64 a,.int .i64 b]) (by simp);have ⟨k0,k1,_,_,_⟩:=wS.box
   (first | (go_simp;done) | (go_simp;exact Rg.wr (by omega) (by omega)) | (go_simp;omega) | (go_simp;rfl) | (go_simp;exact ⟨rfl,rfl⟩))
  ·unfold Rg.aS
   intro zZ w_ l_ i_ s_ wu xA xE ww t_ hr;refine ⟨rfl,?_⟩;rw [if_neg (by decide)];have e5:zZ.tmps[5]?=some (.pointer (some ⟨G+1,0,none⟩)):=hr 5 (by decide);have wS:aH w_ (G+1) 27 #[.int .i64 y,.int .i64 Y1,.int .i64 E1]:=s_.hV (G+1,27,#[.int .i64 y,.int .i64 Y1,.int .i64 E1]) (by simp);have ⟨k0,k1,k2⟩:=wS.aK
   (first | (go_simp;done) | (go_simp;exact Rg.wr (by omega) (by omega)) | (go_simp;omega) | (go_simp;rfl) | (go_simp;exact ⟨rfl,rfl⟩))
  ·unfold Rg.aS
   intro zZ w_ l_ i_ s_ wu xA xE ww t_ hr;have e2:zZ.tmps[2]?=some (.pointer (some ⟨w.heap.size,0,none⟩)):=hr 2 (by decide);have JO:zZ.tmps[68]?=some (.agg #[.int .i64 a,.int .i64 b]):=hr 68 (by decide);refine ⟨rfl,?_⟩;rw [if_pos (by decide)];have q_:=s_;simp only [xA,cond_false] at q_;have p_:=And.intro (q_.gQ (.int .i64 a) (.int .i64 b)) (And.intro True.intro True.intro)
   skip
   have ⟨yz,y6,y7,ym,_⟩:=q_.R.box;unfold Oper.wp
   go_simp
   all_goals first | exact p_ | exact p_.1 | exact ⟨undef,p_⟩ | exact ⟨_,rfl,p_⟩
  ·unfold Rg.aS
   intro zZ w_ l_ i_ s_ wu xA xE ww t_ hr;have e3:zZ.tmps[3]?=some (.pointer (some ⟨w.heap.size+1,0,none⟩)):=hr 3 (by decide);have JP:zZ.tmps[69]?=some (.agg #[.int .i64 y,.int .i64 Y1,.int .i64 E1]):=hr 69 (by decide);refine ⟨rfl,?_⟩;rw [if_pos (by decide)];have q_:=s_;simp only [xA,cond_false] at q_;have p_:=And.intro (q_.gE (.int .i64 y) (.int .i64 Y1) (.int .i64 E1)) (And.intro True.intro True.intro);have ⟨yz,y6,Bb,y7,ym,Ay⟩:=q_.Q.bF;unfold Oper.wp
   go_simp
   all_goals first | exact p_ | exact p_.1 | exact ⟨undef,p_⟩ | exact ⟨_,rfl,p_⟩
  intro vals wz s_ hF hv;simp only [Rg.ay,Rg.fill,Act.put,Nat.reduceAdd];clear hv hF;simp only [cond_true] at s_;obtain ⟨⟨t_,j_⟩,-,R,Q,-,-⟩:=s_;have ⟨zS,zT,wM,wN,zU⟩:=R.box;have ⟨BK,BL,BM,yc,yd,ye⟩:=Q.bF;have BN:=Q.lt;go_wp2;exact bodyPost_ret (v:=.tuple #[.agg #[.int .i64 a,.int .i64 b],.agg #[.int .i64 y,.int .i64 Y1,.int .i64 E1]]) (by simp [results,Tryz.results99,go_sem, *]) rfl (⟨a,b,y,Y1,E1,rfl,t_.mono (by omega),j_⟩)
 by_cases x1:x=1
 ·subst x1
  have ⟨Cm,Cn,Co,xS,xT,zo⟩:=U.bF;have Cp:=U.lt
  go_wp2_with fail
  clear Cm Cn Co xS xT zo Cp;have xv:=st;replace st:=st.alloc (.cells #[.int .i64 (wrap64 (Y1+1)),.int .i64 4611686018427387904,.int .i64 (-9223372036854775808)] 3);replace R:=R.alloc (.cells #[.int .i64 (wrap64 (Y1+1)),.int .i64 4611686018427387904,.int .i64 (-9223372036854775808)] 3);replace Q:=Q.alloc (.cells #[.int .i64 (wrap64 (Y1+1)),.int .i64 4611686018427387904,.int .i64 (-9223372036854775808)] 3);replace C:=C.alloc (.cells #[.int .i64 (wrap64 (Y1+1)),.int .i64 4611686018427387904,.int .i64 (-9223372036854775808)] 3);replace U:=U.alloc (.cells #[.int .i64 (wrap64 (Y1+1)),.int .i64 4611686018427387904,.int .i64 (-9223372036854775808)] 3);refine (cI g B v n _ [wrap64 (Y1+1),4611686018427387904,-9223372036854775808] (CV).heap.size 3 _ st.cur (by omega) rfl (by omega) (by omega) (by have:=xv.size;omega) (bT _ _ _)).mono ?_;rintro e CW ⟨y,rfl,-,t_,j_⟩;replace st:=st.call t_ j_;have CU:=j_.size;replace R:=R.aR j_ nR;replace Q:=Q.aR j_ nQ;replace C:=C.aR j_ nC;replace U:=U.aR j_ nU;clear t_ j_;clear xv;have ⟨Cm,Cn,Co,xS,xT,zo⟩:=U.bF;have Cp:=U.lt
  go_upto_region 18 with fail
  clear Cm Cn Co xS xT zo Cp;replace U:aH _ (G+1) 27 #[.int .i64 X1,.int .i64 y,.int .i64 E1]:=U.set 1 (.int .i64 y);replace st:=st.aU (c:=G+1) (o:=1) (by omega) (by omega) (by omega) (.int .i64 y);replace R:=R.other (k:=G+1) (i:=1) (by omega) (.int .i64 y);replace Q:=Q.other (k:=G+1) (i:=1) (by omega) (.int .i64 y);replace C:=C.other (k:=G+1) (i:=1) (by omega) (.int .i64 y);generalize CW.setCell ⟨G+1,1,none⟩ (.int .i64 y)=w8 at *
  have TW:zW w g B v n (K+100) w.heap.size (w.heap.size+1) [(G,25,#[.int .i64 a,.int .i64 b]),(G+1,27,#[.int .i64 X1,.int .i64 y,.int .i64 E1])] 25 27 _ _ w8:=⟨⟨st.cur.mono (by omega),st.gr⟩,fun x hx=>(by rcases List.mem_cons.1 hx with rfl | hx;exact C;rcases List.mem_cons.1 hx with rfl | hx;exact U;cases hx),R,Q,⟨wL _,by omega,by omega,by omega,by omega⟩,fun x hx=>(by rcases List.mem_cons.1 hx with rfl | hx;(show w.heap.size+1<G;omega);rcases List.mem_cons.1 hx with rfl | hx;(show w.heap.size+1<G+1;omega);cases hx)⟩
  clear st R Q C U;refine Rg.eB (fun l W=>zW w g B v n (K+100) w.heap.size (w.heap.size+1) [(G,25,#[.int .i64 a,.int .i64 b]),(G+1,27,#[.int .i64 X1,.int .i64 y,.int .i64 E1])] 25 27 (bif l 2 then #[.int .i64 a,.int .i64 b] else #[.int .i64 0,.int .i64 0]) (bif l 3 then #[.int .i64 X1,.int .i64 y,.int .i64 E1] else #[.int .i64 0,.int .i64 0,.int .i64 0]) W) (fun _ _ _=>True) (fun _ _=>True) [2,3] [.agg #[.int .i64 a,.int .i64 b],.agg #[.int .i64 X1,.int .i64 y,.int .i64 E1],undef,undef] (by kernel_rfl) (by kernel_rfl) (by decide) (fun l l2 W h q=>by rw [←h 2 (by decide),←h 3 (by decide)];exact q) (fun _ _ _ _ _ _=>trivial) TW.drew ⟨?_,?_,?_,?_,trivial⟩ ?_
  ·unfold Rg.aS
   intro zZ w_ l_ i_ s_ wu xA xE ww t_ hr;refine ⟨rfl,?_⟩;rw [if_neg (by decide)];have e4:zZ.tmps[4]?=some (.pointer (some ⟨G,0,none⟩)):=hr 4 (by decide);have wS:aH w_ G 25 #[.int .i64 a,.int .i64 b]:=s_.hV (G,25,#[.int .i64 a,.int .i64 b]) (by simp);have ⟨k0,k1,_,_,_⟩:=wS.box
   (first | (go_simp;done) | (go_simp;exact Rg.wr (by omega) (by omega)) | (go_simp;omega) | (go_simp;rfl) | (go_simp;exact ⟨rfl,rfl⟩))
  ·unfold Rg.aS
   intro zZ w_ l_ i_ s_ wu xA xE ww t_ hr;refine ⟨rfl,?_⟩;rw [if_neg (by decide)];have e5:zZ.tmps[5]?=some (.pointer (some ⟨G+1,0,none⟩)):=hr 5 (by decide);have wS:aH w_ (G+1) 27 #[.int .i64 X1,.int .i64 y,.int .i64 E1]:=s_.hV (G+1,27,#[.int .i64 X1,.int .i64 y,.int .i64 E1]) (by simp);have ⟨k0,k1,k2⟩:=wS.aK
   (first | (go_simp;done) | (go_simp;exact Rg.wr (by omega) (by omega)) | (go_simp;omega) | (go_simp;rfl) | (go_simp;exact ⟨rfl,rfl⟩))
  ·unfold Rg.aS
   intro zZ w_ l_ i_ s_ wu xA xE ww t_ hr;have e2:zZ.tmps[2]?=some (.pointer (some ⟨w.heap.size,0,none⟩)):=hr 2 (by decide);have JO:zZ.tmps[68]?=some (.agg #[.int .i64 a,.int .i64 b]):=hr 68 (by decide);refine ⟨rfl,?_⟩;rw [if_pos (by decide)];have q_:=s_;simp only [xA,cond_false] at q_;have p_:=And.intro (q_.gQ (.int .i64 a) (.int .i64 b)) (And.intro True.intro True.intro)
   skip
   have ⟨yz,y6,y7,ym,_⟩:=q_.R.box;unfold Oper.wp
   go_simp
   all_goals first | exact p_ | exact p_.1 | exact ⟨undef,p_⟩ | exact ⟨_,rfl,p_⟩
  ·unfold Rg.aS
   intro zZ w_ l_ i_ s_ wu xA xE ww t_ hr;have e3:zZ.tmps[3]?=some (.pointer (some ⟨w.heap.size+1,0,none⟩)):=hr 3 (by decide);have JP:zZ.tmps[69]?=some (.agg #[.int .i64 X1,.int .i64 y,.int .i64 E1]):=hr 69 (by decide);refine ⟨rfl,?_⟩;rw [if_pos (by decide)];have q_:=s_;simp only [xA,cond_false] at q_;have p_:=And.intro (q_.gE (.int .i64 X1) (.int .i64 y) (.int .i64 E1)) (And.intro True.intro True.intro);have ⟨yz,y6,Bb,y7,ym,Ay⟩:=q_.Q.bF;unfold Oper.wp
   go_simp
   all_goals first | exact p_ | exact p_.1 | exact ⟨undef,p_⟩ | exact ⟨_,rfl,p_⟩
  intro vals wz s_ hF hv;simp only [Rg.ay,Rg.fill,Act.put,Nat.reduceAdd];clear hv hF;simp only [cond_true] at s_;obtain ⟨⟨t_,j_⟩,-,R,Q,-,-⟩:=s_;have ⟨zS,zT,wM,wN,zU⟩:=R.box;have ⟨BK,BL,BM,yc,yd,ye⟩:=Q.bF;have BN:=Q.lt;go_wp2;exact bodyPost_ret (v:=.tuple #[.agg #[.int .i64 a,.int .i64 b],.agg #[.int .i64 X1,.int .i64 y,.int .i64 E1]]) (by simp [results,Tryz.results99,go_sem, *]) rfl (⟨a,b,X1,y,E1,rfl,t_.mono (by omega),j_⟩)
 by_cases x2:x=2
 ·subst x2
  go_wp2_with fail
  have xv:=st;replace st:=st.alloc (.cells #[.int .i64 (-1),.int .i64 0,.int .i64 2,.int .i64 21] 3);replace R:=R.alloc (.cells #[.int .i64 (-1),.int .i64 0,.int .i64 2,.int .i64 21] 3);replace Q:=Q.alloc (.cells #[.int .i64 (-1),.int .i64 0,.int .i64 2,.int .i64 21] 3);replace C:=C.alloc (.cells #[.int .i64 (-1),.int .i64 0,.int .i64 2,.int .i64 21] 3);replace U:=U.alloc (.cells #[.int .i64 (-1),.int .i64 0,.int .i64 2,.int .i64 21] 3);refine (cI g B v n _ [-1,0,2,21] (CV).heap.size 4 _ st.cur (by omega) rfl (by omega) (by omega) (by have:=xv.size;omega) (bT _ _ _)).mono ?_;rintro e CW ⟨y,rfl,-,t_,j_⟩;replace st:=st.call t_ j_;have CU:=j_.size;replace R:=R.aR j_ nR;replace Q:=Q.aR j_ nQ;replace C:=C.aR j_ nC;replace U:=U.aR j_ nU;clear t_ j_;clear xv;have ⟨Cm,Cn,Co,xS,xT,zo⟩:=U.bF;have Cp:=U.lt
  go_upto_region 18 with fail
  clear Cm Cn Co xS xT zo Cp;replace U:aH _ (G+1) 27 #[.int .i64 X1,.int .i64 Y1,.int .i64 y]:=U.set 2 (.int .i64 y);replace st:=st.aU (c:=G+1) (o:=2) (by omega) (by omega) (by omega) (.int .i64 y);replace R:=R.other (k:=G+1) (i:=2) (by omega) (.int .i64 y);replace Q:=Q.other (k:=G+1) (i:=2) (by omega) (.int .i64 y);replace C:=C.other (k:=G+1) (i:=2) (by omega) (.int .i64 y);generalize CW.setCell ⟨G+1,2,none⟩ (.int .i64 y)=w8 at *
  have TW:zW w g B v n (K+100) w.heap.size (w.heap.size+1) [(G,25,#[.int .i64 a,.int .i64 b]),(G+1,27,#[.int .i64 X1,.int .i64 Y1,.int .i64 y])] 25 27 _ _ w8:=⟨⟨st.cur.mono (by omega),st.gr⟩,fun x hx=>(by rcases List.mem_cons.1 hx with rfl | hx;exact C;rcases List.mem_cons.1 hx with rfl | hx;exact U;cases hx),R,Q,⟨wL _,by omega,by omega,by omega,by omega⟩,fun x hx=>(by rcases List.mem_cons.1 hx with rfl | hx;(show w.heap.size+1<G;omega);rcases List.mem_cons.1 hx with rfl | hx;(show w.heap.size+1<G+1;omega);cases hx)⟩
  clear st R Q C U;refine Rg.eB (fun l W=>zW w g B v n (K+100) w.heap.size (w.heap.size+1) [(G,25,#[.int .i64 a,.int .i64 b]),(G+1,27,#[.int .i64 X1,.int .i64 Y1,.int .i64 y])] 25 27 (bif l 2 then #[.int .i64 a,.int .i64 b] else #[.int .i64 0,.int .i64 0]) (bif l 3 then #[.int .i64 X1,.int .i64 Y1,.int .i64 y] else #[.int .i64 0,.int .i64 0,.int .i64 0]) W) (fun _ _ _=>True) (fun _ _=>True) [2,3] [.agg #[.int .i64 a,.int .i64 b],.agg #[.int .i64 X1,.int .i64 Y1,.int .i64 y],undef,undef] (by kernel_rfl) (by kernel_rfl) (by decide) (fun l l2 W h q=>by rw [←h 2 (by decide),←h 3 (by decide)];exact q) (fun _ _ _ _ _ _=>trivial) TW.drew ⟨?_,?_,?_,?_,trivial⟩ ?_
  ·unfold Rg.aS
   intro zZ w_ l_ i_ s_ wu xA xE ww t_ hr;refine ⟨rfl,?_⟩;rw [if_neg (by decide)];have e4:zZ.tmps[4]?=some (.pointer (some ⟨G,0,none⟩)):=hr 4 (by decide);have wS:aH w_ G 25 #[.int .i64 a,.int .i64 b]:=s_.hV (G,25,#[.int .i64 a,.int .i64 b]) (by simp);have ⟨k0,k1,_,_,_⟩:=wS.box
   (first | (go_simp;done) | (go_simp;exact Rg.wr (by omega) (by omega)) | (go_simp;omega) | (go_simp;rfl) | (go_simp;exact ⟨rfl,rfl⟩))
  ·unfold Rg.aS
   intro zZ w_ l_ i_ s_ wu xA xE ww t_ hr;refine ⟨rfl,?_⟩;rw [if_neg (by decide)];have e5:zZ.tmps[5]?=some (.pointer (some ⟨G+1,0,none⟩)):=hr 5 (by decide);have wS:aH w_ (G+1) 27 #[.int .i64 X1,.int .i64 Y1,.int .i64 y]:=s_.hV (G+1,27,#[.int .i64 X1,.int .i64 Y1,.int .i64 y]) (by simp);have ⟨k0,k1,k2⟩:=wS.aK
   (first | (go_simp;done) | (go_simp;exact Rg.wr (by omega) (by omega)) | (go_simp;omega) | (go_simp;rfl) | (go_simp;exact ⟨rfl,rfl⟩))
  ·unfold Rg.aS
   intro zZ w_ l_ i_ s_ wu xA xE ww t_ hr;have e2:zZ.tmps[2]?=some (.pointer (some ⟨w.heap.size,0,none⟩)):=hr 2 (by decide);have JO:zZ.tmps[68]?=some (.agg #[.int .i64 a,.int .i64 b]):=hr 68 (by decide);refine ⟨rfl,?_⟩;rw [if_pos (by decide)];have q_:=s_;simp only [xA,cond_false] at q_;have p_:=And.intro (q_.gQ (.int .i64 a) (.int .i64 b)) (And.intro True.intro True.intro)
   skip
   have ⟨yz,y6,y7,ym,_⟩:=q_.R.box;unfold Oper.wp
   go_simp
   all_goals first | exact p_ | exact p_.1 | exact ⟨undef,p_⟩ | exact ⟨_,rfl,p_⟩
  ·unfold Rg.aS
   intro zZ w_ l_ i_ s_ wu xA xE ww t_ hr;have e3:zZ.tmps[3]?=some (.pointer (some ⟨w.heap.size+1,0,none⟩)):=hr 3 (by decide);have JP:zZ.tmps[69]?=some (.agg #[.int .i64 X1,.int .i64 Y1,.int .i64 y]):=hr 69 (by decide);refine ⟨rfl,?_⟩;rw [if_pos (by decide)];have q_:=s_;simp only [xA,cond_false] at q_;have p_:=And.intro (q_.gE (.int .i64 X1) (.int .i64 Y1) (.int .i64 y)) (And.intro True.intro True.intro);have ⟨yz,y6,Bb,y7,ym,Ay⟩:=q_.Q.bF;unfold Oper.wp
   go_simp
   all_goals first | exact p_ | exact p_.1 | exact ⟨undef,p_⟩ | exact ⟨_,rfl,p_⟩
  intro vals wz s_ hF hv;simp only [Rg.ay,Rg.fill,Act.put,Nat.reduceAdd];clear hv hF;simp only [cond_true] at s_;obtain ⟨⟨t_,j_⟩,-,R,Q,-,-⟩:=s_;have ⟨zS,zT,wM,wN,zU⟩:=R.box;have ⟨BK,BL,BM,yc,yd,ye⟩:=Q.bF;have BN:=Q.lt;go_wp2;exact bodyPost_ret (v:=.tuple #[.agg #[.int .i64 a,.int .i64 b],.agg #[.int .i64 X1,.int .i64 Y1,.int .i64 y]]) (by simp [results,Tryz.results99,go_sem, *]) rfl (⟨a,b,X1,Y1,y,rfl,t_.mono (by omega),j_⟩)
 by_cases x3:x=3
 ·subst x3
  go_wp2_with fail
  refine (nZ g B v n _ _ st.cur (by omega)).mono ?_;rintro e CW ⟨a2,b2,rfl,t_,j_⟩;replace st:=st.call t_ j_;have CU:=j_.size;replace R:=R.aR j_ nR;replace Q:=Q.aR j_ nQ;replace C:=C.aR j_ nC;replace U:=U.aR j_ nU;clear t_ j_;have ⟨Fp,C_1,Bh,Bi,Fq⟩:=C.box
  go_upto_region 18 with fail
  clear Fp C_1 Bh Bi Fq;replace C:=C.set2 (.int .i64 a2) (.int .i64 b2);replace R:=(R.other (k:=G) (i:=0) (by omega) (.int .i64 a2)).other (k:=G) (i:=1) (by omega) (.int .i64 b2);replace Q:=(Q.other (k:=G) (i:=0) (by omega) (.int .i64 a2)).other (k:=G) (i:=1) (by omega) (.int .i64 b2);replace U:=(U.other (k:=G) (i:=0) (by omega) (.int .i64 a2)).other (k:=G) (i:=1) (by omega) (.int .i64 b2);replace st:=(st.aU (c:=G) (o:=0) (by omega) (by omega) (by omega) (.int .i64 a2)).aU (c:=G) (o:=1) (by omega) (by omega) (by omega) (.int .i64 b2);generalize (CW.setCell ⟨G,0,none⟩ (.int .i64 a2)).setCell ⟨G,1,none⟩ (.int .i64 b2)=w8 at *
  have TW:zW w g B v n (K+100) w.heap.size (w.heap.size+1) [(G,25,#[.int .i64 a2,.int .i64 b2]),(G+1,27,#[.int .i64 X1,.int .i64 Y1,.int .i64 E1])] 25 27 _ _ w8:=⟨⟨st.cur.mono (by omega),st.gr⟩,fun x hx=>(by rcases List.mem_cons.1 hx with rfl | hx;exact C;rcases List.mem_cons.1 hx with rfl | hx;exact U;cases hx),R,Q,⟨wL _,by omega,by omega,by omega,by omega⟩,fun x hx=>(by rcases List.mem_cons.1 hx with rfl | hx;(show w.heap.size+1<G;omega);rcases List.mem_cons.1 hx with rfl | hx;(show w.heap.size+1<G+1;omega);cases hx)⟩
  clear st R Q C U;refine Rg.eB (fun l W=>zW w g B v n (K+100) w.heap.size (w.heap.size+1) [(G,25,#[.int .i64 a2,.int .i64 b2]),(G+1,27,#[.int .i64 X1,.int .i64 Y1,.int .i64 E1])] 25 27 (bif l 2 then #[.int .i64 a2,.int .i64 b2] else #[.int .i64 0,.int .i64 0]) (bif l 3 then #[.int .i64 X1,.int .i64 Y1,.int .i64 E1] else #[.int .i64 0,.int .i64 0,.int .i64 0]) W) (fun _ _ _=>True) (fun _ _=>True) [2,3] [.agg #[.int .i64 a2,.int .i64 b2],.agg #[.int .i64 X1,.int .i64 Y1,.int .i64 E1],undef,undef] (by kernel_rfl) (by kernel_rfl) (by decide) (fun l l2 W h q=>by rw [←h 2 (by decide),←h 3 (by decide)];exact q) (fun _ _ _ _ _ _=>trivial) TW.drew ⟨?_,?_,?_,?_,trivial⟩ ?_
  ·unfold Rg.aS
   intro zZ w_ l_ i_ s_ wu xA xE ww t_ hr;refine ⟨rfl,?_⟩;rw [if_neg (by decide)];have e4:zZ.tmps[4]?=some (.pointer (some ⟨G,0,none⟩)):=hr 4 (by decide);have wS:aH w_ G 25 #[.int .i64 a2,.int .i64 b2]:=s_.hV (G,25,#[.int .i64 a2,.int .i64 b2]) (by simp);have ⟨k0,k1,_,_,_⟩:=wS.box
   (first | (go_simp;done) | (go_simp;exact Rg.wr (by omega) (by omega)) | (go_simp;omega) | (go_simp;rfl) | (go_simp;exact ⟨rfl,rfl⟩))
  ·unfold Rg.aS
   intro zZ w_ l_ i_ s_ wu xA xE ww t_ hr;refine ⟨rfl,?_⟩;rw [if_neg (by decide)];have e5:zZ.tmps[5]?=some (.pointer (some ⟨G+1,0,none⟩)):=hr 5 (by decide);have wS:aH w_ (G+1) 27 #[.int .i64 X1,.int .i64 Y1,.int .i64 E1]:=s_.hV (G+1,27,#[.int .i64 X1,.int .i64 Y1,.int .i64 E1]) (by simp);have ⟨k0,k1,k2⟩:=wS.aK
   (first | (go_simp;done) | (go_simp;exact Rg.wr (by omega) (by omega)) | (go_simp;omega) | (go_simp;rfl) | (go_simp;exact ⟨rfl,rfl⟩))
  ·unfold Rg.aS
   intro zZ w_ l_ i_ s_ wu xA xE ww t_ hr;have e2:zZ.tmps[2]?=some (.pointer (some ⟨w.heap.size,0,none⟩)):=hr 2 (by decide);have JO:zZ.tmps[68]?=some (.agg #[.int .i64 a2,.int .i64 b2]):=hr 68 (by decide);refine ⟨rfl,?_⟩;rw [if_pos (by decide)];have q_:=s_;simp only [xA,cond_false] at q_;have p_:=And.intro (q_.gQ (.int .i64 a2) (.int .i64 b2)) (And.intro True.intro True.intro)
   skip
   have ⟨yz,y6,y7,ym,_⟩:=q_.R.box;unfold Oper.wp
   go_simp
   all_goals first | exact p_ | exact p_.1 | exact ⟨undef,p_⟩ | exact ⟨_,rfl,p_⟩
  ·unfold Rg.aS
   intro zZ w_ l_ i_ s_ wu xA xE ww t_ hr;have e3:zZ.tmps[3]?=some (.pointer (some ⟨w.heap.size+1,0,none⟩)):=hr 3 (by decide);have JP:zZ.tmps[69]?=some (.agg #[.int .i64 X1,.int .i64 Y1,.int .i64 E1]):=hr 69 (by decide);refine ⟨rfl,?_⟩;rw [if_pos (by decide)];have q_:=s_;simp only [xA,cond_false] at q_;have p_:=And.intro (q_.gE (.int .i64 X1) (.int .i64 Y1) (.int .i64 E1)) (And.intro True.intro True.intro);have ⟨yz,y6,Bb,y7,ym,Ay⟩:=q_.Q.bF;unfold Oper.wp
   go_simp
   all_goals first | exact p_ | exact p_.1 | exact ⟨undef,p_⟩ | exact ⟨_,rfl,p_⟩
  intro vals wz s_ hF hv;simp only [Rg.ay,Rg.fill,Act.put,Nat.reduceAdd];clear hv hF;simp only [cond_true] at s_;obtain ⟨⟨t_,j_⟩,-,R,Q,-,-⟩:=s_;have ⟨zS,zT,wM,wN,zU⟩:=R.box;have ⟨BK,BL,BM,yc,yd,ye⟩:=Q.bF;have BN:=Q.lt;go_wp2;exact bodyPost_ret (v:=.tuple #[.agg #[.int .i64 a2,.int .i64 b2],.agg #[.int .i64 X1,.int .i64 Y1,.int .i64 E1]]) (by simp [results,Tryz.results99,go_sem, *]) rfl (⟨a2,b2,X1,Y1,E1,rfl,t_.mono (by omega),j_⟩)
 by_cases x4:x=4
 ·subst x4
  go_wp2_with fail
  have xv:=st;replace st:=st.alloc (.cells #[.int .i64 10000,.int .i64 10001] 3);replace R:=R.alloc (.cells #[.int .i64 10000,.int .i64 10001] 3);replace Q:=Q.alloc (.cells #[.int .i64 10000,.int .i64 10001] 3);replace C:=C.alloc (.cells #[.int .i64 10000,.int .i64 10001] 3);replace U:=U.alloc (.cells #[.int .i64 10000,.int .i64 10001] 3);refine (cI g B v n _ [10000,10001] (CV).heap.size 2 _ st.cur (by omega) rfl (by omega) (by omega) (by have:=xv.size;omega) (bT _ _ _)).mono ?_;rintro e CW ⟨y,rfl,-,t_,j_⟩;replace st:=st.call t_ j_;have CU:=j_.size;replace R:=R.aR j_ nR;replace Q:=Q.aR j_ nQ;replace C:=C.aR j_ nC;replace U:=U.aR j_ nU;clear t_ j_;clear xv
  go_wp2_with fail
  have xv:=st;replace st:=st.alloc (.cells #[.int .i64 1000000,.int .i64 (-1000000)] 3);replace R:=R.alloc (.cells #[.int .i64 1000000,.int .i64 (-1000000)] 3);replace Q:=Q.alloc (.cells #[.int .i64 1000000,.int .i64 (-1000000)] 3);replace C:=C.alloc (.cells #[.int .i64 1000000,.int .i64 (-1000000)] 3);replace U:=U.alloc (.cells #[.int .i64 1000000,.int .i64 (-1000000)] 3);refine (cI g B v n _ [1000000,-1000000] (CW).heap.size 2 _ st.cur (by omega) rfl (by omega) (by omega) (by have:=xv.size;omega) (bT _ _ _)).mono ?_;rintro e w_z ⟨z,rfl,-,t_,j_⟩;replace st:=st.call t_ j_;have Od:=j_.size;replace R:=R.aR j_ nR;replace Q:=Q.aR j_ nQ;replace C:=C.aR j_ nC;replace U:=U.aR j_ nU;clear t_ j_;clear xv;have ⟨zS,zT,wM,wN,zU⟩:=R.box;have ⟨BK,BL,BM,yc,yd,ye⟩:=Q.bF;have BN:=Q.lt;go_wp2;exact bodyPost_ret (v:=.tuple #[.agg #[.int .i64 1,.int .i64 (-10000)],.agg #[.int .i64 y,.int .i64 z,.int .i64 1]]) (by simp [results,Tryz.results99,go_sem, *]) rfl (⟨1,(-10000),y,z,1,rfl,(((((st.aU (c:=w.heap.size) (o:=0) (by omega) (by omega) (by omega) (.int .i64 1)).aU (c:=w.heap.size) (o:=1) (by omega) (by omega) (by omega) (.int .i64 (-10000))).aU (c:=w.heap.size+1) (o:=0) (by omega) (by omega) (by omega) (.int .i64 y)).aU (c:=w.heap.size+1) (o:=1) (by omega) (by omega) (by omega) (.int .i64 z)).aU (c:=w.heap.size+1) (o:=2) (by omega) (by omega) (by omega) (.int .i64 1)).cur.mono (by omega),(((((st.aU (c:=w.heap.size) (o:=0) (by omega) (by omega) (by omega) (.int .i64 1)).aU (c:=w.heap.size) (o:=1) (by omega) (by omega) (by omega) (.int .i64 (-10000))).aU (c:=w.heap.size+1) (o:=0) (by omega) (by omega) (by omega) (.int .i64 y)).aU (c:=w.heap.size+1) (o:=1) (by omega) (by omega) (by omega) (.int .i64 z)).aU (c:=w.heap.size+1) (o:=2) (by omega) (by omega) (by omega) (.int .i64 1)).gr⟩)
 have b0:(x == 0)=false:=by simpa using x0
 have b1:(x == 1)=false:=by simpa using x1
 have b2:(x == 2)=false:=by simpa using x2
 have b3:(x == 3)=false:=by simpa using x3
 have b4:(x == 4)=false:=by simpa using x4
 go_upto_region 18 with fail
 generalize CV=w8 at *
 have TW:zW w g B v n (K+100) w.heap.size (w.heap.size+1) [(G,25,#[.int .i64 a,.int .i64 b]),(G+1,27,#[.int .i64 X1,.int .i64 Y1,.int .i64 E1])] 25 27 _ _ w8:=⟨⟨st.cur.mono (by omega),st.gr⟩,fun x hx=>(by rcases List.mem_cons.1 hx with rfl | hx;exact C;rcases List.mem_cons.1 hx with rfl | hx;exact U;cases hx),R,Q,⟨wL _,by omega,by omega,by omega,by omega⟩,fun x hx=>(by rcases List.mem_cons.1 hx with rfl | hx;(show w.heap.size+1<G;omega);rcases List.mem_cons.1 hx with rfl | hx;(show w.heap.size+1<G+1;omega);cases hx)⟩
 clear st R Q C U;refine Rg.eB (fun l W=>zW w g B v n (K+100) w.heap.size (w.heap.size+1) [(G,25,#[.int .i64 a,.int .i64 b]),(G+1,27,#[.int .i64 X1,.int .i64 Y1,.int .i64 E1])] 25 27 (bif l 2 then #[.int .i64 a,.int .i64 b] else #[.int .i64 0,.int .i64 0]) (bif l 3 then #[.int .i64 X1,.int .i64 Y1,.int .i64 E1] else #[.int .i64 0,.int .i64 0,.int .i64 0]) W) (fun _ _ _=>True) (fun _ _=>True) [2,3] [.agg #[.int .i64 a,.int .i64 b],.agg #[.int .i64 X1,.int .i64 Y1,.int .i64 E1],undef,undef] (by kernel_rfl) (by kernel_rfl) (by decide) (fun l l2 W h q=>by rw [←h 2 (by decide),←h 3 (by decide)];exact q) (fun _ _ _ _ _ _=>trivial) TW.drew ⟨?_,?_,?_,?_,trivial⟩ ?_
 ·unfold Rg.aS
  intro zZ w_ l_ i_ s_ wu xA xE ww t_ hr;refine ⟨rfl,?_⟩;rw [if_neg (by decide)];have e4:zZ.tmps[4]?=some (.pointer (some ⟨G,0,none⟩)):=hr 4 (by decide);have wS:aH w_ G 25 #[.int .i64 a,.int .i64 b]:=s_.hV (G,25,#[.int .i64 a,.int .i64 b]) (by simp);have ⟨k0,k1,_,_,_⟩:=wS.box
  (first | (go_simp;done) | (go_simp;exact Rg.wr (by omega) (by omega)) | (go_simp;omega) | (go_simp;rfl) | (go_simp;exact ⟨rfl,rfl⟩))
 ·unfold Rg.aS
  intro zZ w_ l_ i_ s_ wu xA xE ww t_ hr;refine ⟨rfl,?_⟩;rw [if_neg (by decide)];have e5:zZ.tmps[5]?=some (.pointer (some ⟨G+1,0,none⟩)):=hr 5 (by decide);have wS:aH w_ (G+1) 27 #[.int .i64 X1,.int .i64 Y1,.int .i64 E1]:=s_.hV (G+1,27,#[.int .i64 X1,.int .i64 Y1,.int .i64 E1]) (by simp);have ⟨k0,k1,k2⟩:=wS.aK
  (first | (go_simp;done) | (go_simp;exact Rg.wr (by omega) (by omega)) | (go_simp;omega) | (go_simp;rfl) | (go_simp;exact ⟨rfl,rfl⟩))
 ·unfold Rg.aS
  intro zZ w_ l_ i_ s_ wu xA xE ww t_ hr;have e2:zZ.tmps[2]?=some (.pointer (some ⟨w.heap.size,0,none⟩)):=hr 2 (by decide);have JO:zZ.tmps[68]?=some (.agg #[.int .i64 a,.int .i64 b]):=hr 68 (by decide);refine ⟨rfl,?_⟩;rw [if_pos (by decide)];have q_:=s_;simp only [xA,cond_false] at q_;have p_:=And.intro (q_.gQ (.int .i64 a) (.int .i64 b)) (And.intro True.intro True.intro)
  skip
  have ⟨yz,y6,y7,ym,_⟩:=q_.R.box;unfold Oper.wp
  go_simp
  all_goals first | exact p_ | exact p_.1 | exact ⟨undef,p_⟩ | exact ⟨_,rfl,p_⟩
 ·unfold Rg.aS
  intro zZ w_ l_ i_ s_ wu xA xE ww t_ hr;have e3:zZ.tmps[3]?=some (.pointer (some ⟨w.heap.size+1,0,none⟩)):=hr 3 (by decide);have JP:zZ.tmps[69]?=some (.agg #[.int .i64 X1,.int .i64 Y1,.int .i64 E1]):=hr 69 (by decide);refine ⟨rfl,?_⟩;rw [if_pos (by decide)];have q_:=s_;simp only [xA,cond_false] at q_;have p_:=And.intro (q_.gE (.int .i64 X1) (.int .i64 Y1) (.int .i64 E1)) (And.intro True.intro True.intro);have ⟨yz,y6,Bb,y7,ym,Ay⟩:=q_.Q.bF;unfold Oper.wp
  go_simp
  all_goals first | exact p_ | exact p_.1 | exact ⟨undef,p_⟩ | exact ⟨_,rfl,p_⟩
 intro vals wz s_ hF hv;simp only [Rg.ay,Rg.fill,Act.put,Nat.reduceAdd];clear hv hF;simp only [cond_true] at s_;obtain ⟨⟨t_,j_⟩,-,R,Q,-,-⟩:=s_;have ⟨zS,zT,wM,wN,zU⟩:=R.box;have ⟨BK,BL,BM,yc,yd,ye⟩:=Q.bF;have BN:=Q.lt;go_wp2;exact bodyPost_ret (v:=.tuple #[.agg #[.int .i64 a,.int .i64 b],.agg #[.int .i64 X1,.int .i64 Y1,.int .i64 E1]]) (by simp [results,Tryz.results99,go_sem, *]) rfl (⟨a,b,X1,Y1,E1,rfl,t_.mono (by omega),j_⟩)
end
end Go.Proofs.YtggekfbfechonaaGreat
