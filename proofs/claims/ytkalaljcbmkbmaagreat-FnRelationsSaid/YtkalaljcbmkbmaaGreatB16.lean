/-
  Joined texts: contracts and plain lemmas.
-/
import Derived.Test.YtkalaljcbmkbmaaGreatB1
import Derived.Test.YtkalaljcbmkbmaaGreatB15
import Derived.Test.YtkalaljcbmkbmaaGreatB13
import Derived.Test.YtkalaljcbmkbmaaGreatB14
import Derived.Test.YtkalaljcbmkbmaaGreatRows
import Derived.WalkKit
import Derived.ProofKit
import Derived.OpenShut
import Derived.Lib.SmallJoins
import Derived.Below
import Derived.Carry
import Derived.Laws.IdiomCopy
import Derived.Shelf.Abstract
import Derived.Deep.Slices
import Derived.Test.YtkalaljcbmkbmaaGreatB12
import Derived.Deep.DeepCutAuto
import Derived.Deep.RegionWith
import Derived.Test.YtkalaljcbmkbmaaGreatB7
set_option linter.unusedSimpArgs false
set_option linter.unusedVariables false
set_option maxRecDepth 100000
set_option maxHeartbeats 8000000
namespace Go.Proofs.YtkalaljcbmkbmaaGreat
open _root_.Go.Proofs.Tryz
section
open Go.RowKit open Gr M Rg Rw Wh
namespace M
noncomputable def LR (m:JE):Oy:=m.map fun r=>r.map fun q=>Lh (some q)
theorem yS (m:JE) (c:Nat):i9 (LR m) c=LR (bq m c):=by
 unfold i9 LR bq;rw [←List.map_tail,List.map_map,List.map_map]
 refine List.map_congr_left fun r _=>?_
 simp only [Function.comp,List.map_append,List.map_take,List.map_drop]
theorem GK {m:JE} {i:Nat} {r:List (Int × Int)} (h:m[i]?=some r):(LR m)[i]?=some (r.map fun q=>Lh (some q)):=by
 unfold LR;rw [List.getElem?_map,h];rfl
theorem Dg (m:JE):(LR m).length=m.length:=by unfold LR;rw [List.length_map]
theorem GL {n:Nat} {m:JE} (h:square n m):∀ r ∈ LR m,r.length=n:=fun r hr=>by
 unfold LR at hr;obtain ⟨s,hs,rfl⟩:=List.mem_map.1 hr;rw [List.length_map];exact h.2 s hs
theorem AV {n:Nat} {m:JE} {c:Nat} (Je:square (n+2) m) (hc:c<n+2) (h:eJ n m (c+1)=none):dN (n+2) m=none:=by
 have hl:(m.headD []).length=n+2:=by
  cases m with
  | nil=>have:=Je.1;simp only [List.length_nil] at this;omega
  | cons r m=>exact Je.2 r (List.mem_cons_self ..)
 rw [iI,hl];exact qG h _ ω
theorem AW {n:Nat} {m:JE} (Je:square (n+2) m):dN (n+2) m=eJ n m (n+2):=by
 have hl:(m.headD []).length=n+2:=by
  cases m with
  | nil=>have:=Je.1;simp only [List.length_nil] at this;omega
  | cons r m=>exact Je.2 r (List.mem_cons_self ..)
 rw [iI,hl]
theorem Db:I9 (some (0,0))=0/\I_ (some (0,0))=1/\JA (some (0,0))=0/\JB (some (0,0))=1:=by
 obtain ⟨k1,k2⟩:=Bp (n:=0) δ δ;exact ⟨k1,k2,k1,k2⟩
theorem mU:I9 none=0/\I_ none=0/\JA none=0/\JB none=0/\(none:Sp).isSome=false:=⟨rfl,rfl,rfl,rfl,rfl⟩
end M
theorem Df (n:Nat):∀ (m:M.JE) (v:Value) (base:Nat) (w:World),n<=3->M.square (n+1) m->M.Qh m->eV w base v (M.LR m)->
  cB 76 #[v] w (.tuple #[.agg #[M.I9 (dN (n+1) m),M.I_ (dN (n+1) m),M.JA (dN (n+1) m),M.JB (dN (n+1) m)],.bool (dN (n+1) m).isSome]):=by
 induction n with
 | zero=>
  intro m v base w hn Je hok hm
  obtain ⟨q,rfl⟩:∃ q,m=[[q]]:=by
   obtain ⟨h1,h2⟩:=Je;obtain ⟨r,rfl⟩:=List.length_eq_one_iff.1 h1;obtain ⟨q,rfl⟩:=List.length_eq_one_iff.1 (h2 r (List.mem_cons_self ..));exact ⟨q,rfl⟩
  have hd:dN (0+1) [[q]]=some q:=rfl;rw [hd];obtain ⟨gm,cap,g2,cap2,rfl,k0,k1,k2,k3,k4⟩:=hm.at (i:=0) (j:=0) (q:=M.Lh (some q)) (r:=[M.Lh (some q)]) rfl rfl;have hl:(M.LR [[q]]).length=1:=rfl;simp only [Nat.zero_mul,Nat.zero_add,List.length_cons,List.length_nil,hl,M.Lh] at k0 k1 k2 k3 k4 ⊢;have e5:(some q:M.Sp).isSome=true:=rfl;rw [e5];generalize M.I9 (some q)=q1 at *;generalize M.I_ (some q)=q2 at *;generalize M.JA (some q)=q3 at *;generalize M.JB (some q)=q4 at *;obtain ⟨wc,hw3,R,B⟩:=cf w #[(0:Int),(0:Int),(0:Int),(0:Int)] 78;replace k0:=aE B k0;replace k1:=aE B k1;replace k2:=aE B k2;replace k3:=aE B k3;replace k4:=aE B k4;have ⟨r0,r1,r2,r3,z0,z1,z2,z3,rl⟩:=R.aK;go_enter func76,ntmps76
  go_wp2;exact D_ results76 ⟨rfl,IW (IW (IW (IW B (IY _) _) (IY _) _) (IY _) _) (IY _) _⟩
 | succ n ih=>
 intro m v base w hn Je hok hm;obtain ⟨vs,hm⟩:=hm;have hml:m.length=n+2:=Je.1
 have OA:(M.LR m).length=n+2:=by rw [Dg];exact hml
 obtain ⟨r0,hr0⟩:∃ r,m[0]?=some r:=⟨_,List.getElem?_eq_getElem ω⟩
 have KR:r0.length=n+2:=Je.2 r0 (List.mem_of_getElem? hr0)
 have hhd:m.headD []=r0:=by
  cases m with
  | nil=>cases hr0
  | cons x m=>exact Option.some.inj hr0
 obtain ⟨rN,SU⟩:∃ x,x=r0.map fun q=>M.Lh (some q):=⟨_,rfl⟩
 have OB:(M.LR m)[0]?=some rN:=by rw [SU];exact GK hr0
 have QO:rN.length=n+2:=by rw [SU,List.length_map];exact KR
 obtain ⟨gm,MX,rfl,hcm,hcm2,hgm⟩:=hm.form (fun h=>by rw [h] at OA;simp only [List.length_nil] at OA;omega);obtain ⟨g0,cap0,hv0,hc0,hg0⟩:=hm.rowIs OB (fun h=>by rw [h] at QO;simp only [List.length_nil] at QO;omega);rw [QO] at hv0 hc0;rw [OA] at hm hcm ⊢;have Na:=hm.kd hv0;have PMn:=IU (fun c (hc:c<n+2) W h=>yL n c (M.LR m) (.slice (some ⟨gm,0,none⟩) (n+2) MX) base W ω OA (GL Je) hc h);have hnone:=IU (fun c (hc:c<n+2) h=>AV (n:=n) (m:=m) (c:=c) Je hc h);have hsome:=IU (AW (n:=n) (m:=m) Je);have Je:=IU Je;have SU:=IU SU;have hr0:=IU hr0;have OB:=IU OB;have KR:=IU KR;have hml:=IU hml;have hhd:=IU hhd;have hok:=IU hok;have hm:=IU hm;have hv0:=IU hv0;have ih:=IU ih
 have PI:=IU fun W=>DR 0 W
 obtain ⟨wc,hw3,R,B⟩:=cf w #[(0:Int),(0:Int),(0:Int),(0:Int)] 78;replace Na:=aE B Na
 have hn1:(n:Int)<=2:=ω
 have hne1:((n:Int)+2 == 1)=false:=by rw [beq_eq_false_iff_ne];omega
 go_enter func76,ntmps76
 go_wp2_with (go_at_call 119;with_reducible refine p_ (PI.out _) fun w5 hb5=>?_;replace ⟨B,R⟩:=Im hb5 B R;replace Na:=aE hb5 Na;have kr1:=aE ((IX _ w5).alloc (IY _) (.cells #[(0:Int),(1:Int),(0:Int),(1:Int)] 78)) Na)
 have S:=aG.new w5 #[(0:Int),(1:Int),(0:Int),(1:Int)] 78;have hrl:=R.lt;replace R:=R.alloc (.cells #[(0:Int),(1:Int),(0:Int),(1:Int)] 78);replace B:=B.alloc B.size (.cells #[(0:Int),(1:Int),(0:Int),(1:Int)] 78);have hsl:=S.lt
 have nSR:w5.heap.size≠w.heap.size:=ω
 have nRS:w.heap.size≠w5.heap.size:=ω
 have hsb:w.heap.size<=w5.heap.size:=ω
 go_loopw [28] (fun vc wq=>∃ (c:Nat) (s:Int × Int),c<=n+2/\vc=.int .i64 (c:Int)/\Hid (eJ n m c=some s)/\aG wq w5 78 #[M.I9 (some s),M.I_ (some s),M.JA (some s),M.JB (some s)]/\aG wq w 78 #[(0:Int),(0:Int),(0:Int),(0:Int)]/\w5.heap.size+1<=wq.heap.size/\Below w w wq) (fun vc _=>n+2 - (intOf vc).toNat)
 case atStart=>
  obtain ⟨e1,e2,e3,e4⟩:=Db;exact ⟨0,(0,0),Nat.zero_le _,rfl,IU rfl,by rw [e1,e2,e3,e4];exact S,R,hsl,B⟩
 case round=>
 clear S R B Na hrl hsl;generalize w5.heap.size=sb at *;obtain ⟨c,s,hc,rfl,hs,S,R,hwz,B⟩:=hrel;generalize hwo:wr=wo at *
 by_cases hlt:c<n+2
 ·obtain ⟨q,hq⟩:∃ q,r0[c]?=some q:=⟨_,List.getElem?_eq_getElem (by have:=KR.out;omega)⟩
  have hqs:aJ q.1 q.2=true:=hok.out r0 (List.mem_of_getElem? hr0.out) _ (List.mem_of_getElem? hq)
  have hqN:rN[c]?=some (M.Lh (some q)):=by rw [SU.out,List.getElem?_map,hq];rfl
  have MQ:=IU (hm.out.below B);obtain ⟨d0,d1,d2,d3⟩:=(MQ.out.rowFrom hv0.out OB.out).at4 hqN;simp only [M.Lh] at d0 d1 d2 d3;have hss:aJ s.1 s.2=true:=rH (n:=n) (m:=m) c s hs.out;have OG:=kj Je.out hlt;have hok1:=p9 (c:=c) hok.out
  have PD:=fun vo b W h=>ih.out (bq m c) vo b W ω OG hok1 h
  have PN:=PMn.out c hlt;rw [yS] at PN;have hdo:=mY hok1 (n+1);have hnx:=g5 n m c;rw [hs.out,hhd.out,hq] at hnx;have hno:=hnone.out c hlt
  obtain ⟨mm,hmm⟩:∃ x,x=bq m c:=⟨_,rfl⟩
  obtain ⟨dd,hdd⟩:∃ x,x=dN (n+1) (bq m c):=⟨_,rfl⟩
  rw [←hdd] at PD hnx hdo;rw [←hmm] at PD PN;have hnx:=IU hnx;have hno:=IU hno;have Bv:=(IX wo wo).alloc (IY _) (.cells #[M.I9 (some q),M.I_ (some q),M.JA (some q),M.JB (some q)] 78);have X:=aG.new wo #[M.I9 (some q),M.I_ (some q),M.JA (some q),M.JB (some q)] 78;replace ⟨B,S,R⟩:=I7 Bv B S R;have MQ:=IU (MQ.out.below Bv);generalize hw2:wo.alloc (.cells #[M.I9 (some q),M.I_ (some q),M.JA (some q),M.JB (some q)] 78)=wb at *
  have hwz2:sb+1<=wb.heap.size:=by have:=S.lt;omega
  have hmw:=IU (show eV wb base (.slice (some ⟨gm,0,none⟩) (n+2) MX) (M.LR m) from ⟨vs,MQ.out⟩)
  cases dd with
  | none=>
   have hfin:dN (n+1+1) m=none:=hno.out (by rw [hnx.out];exact eB _ _);have hfin:=IU hfin;have e9:=IU mU;rw [e9.out.1,e9.out.2.1,e9.out.2.2.1,e9.out.2.2.2.1,e9.out.2.2.2.2] at PD;generalize M.I9 (some q)=q1 at *;generalize M.I_ (some q)=q2 at *;generalize M.JA (some q)=q3 at *;generalize M.JB (some q)=q4 at *;replace PD:=IU PD;replace PN:=IU PN
   go_wp2_with first | (go_at_call 120;(with_reducible refine (PN.out _ hmw.out).mono ?_);rintro e w4 ⟨vo,rfl,Mr,hb4⟩;replace ⟨B,X,S,R⟩:=Ip hb4 B X S R) | (go_at_call 76;with_reducible refine p_ (PD.out _ _ _ Mr) fun w6 hb6=>?_;replace B:=(j_ B hb6).alloc (Nat.le_trans B.size hb6.size) (.cells #[(0:Int),(0:Int),(0:Int),(0:Int)] 78);replace X:=(X.keep hb6).alloc (.cells #[(0:Int),(0:Int),(0:Int),(0:Int)] 78);replace S:=(S.keep hb6).alloc (.cells #[(0:Int),(0:Int),(0:Int),(0:Int)] 78);replace R:=(R.keep hb6).alloc (.cells #[(0:Int),(0:Int),(0:Int),(0:Int)] 78);have Y:=aG.new w6 #[(0:Int),(0:Int),(0:Int),(0:Int)] 78;(have ⟨Sl,Sm,Sn,So,_,_,_,_,_⟩:=Y.aK);(have ⟨Sg,Si,Sj,Sk,_,_,_,_,_⟩:=X.aK);(have ⟨r0,r1,r2,r3,z0,z1,z2,z3,rl⟩:=R.aK))
   exact D_ (v:=.tuple #[.agg #[(0:Int),(0:Int),(0:Int),(0:Int)],false]) results76 ⟨by rw [hfin.out];rfl,IW (IW (IW (IW B (IY _) _) (IY _) _) (IY _) _) (IY _) _⟩
  | some d=>
  have hds:aJ d.1 d.2=true:=hdo d rfl
  have PX:=fun W=>BN q d W hqs hds
  have e5:(some d:M.Sp).isSome=true:=rfl;rw [e5] at PD
  obtain ⟨pp,hpp⟩:∃ x,x=gF (some q) (some d):=⟨_,rfl⟩
  have hpo:M.Jo pp:=by rw [hpp];exact wu
  have hnx2:=hnx.out;rw [←hpp] at hnx2 PX;replace hnx:=IU hnx2;generalize M.I9 (some q)=q1 at *;generalize M.I_ (some q)=q2 at *;generalize M.JA (some q)=q3 at *;generalize M.JB (some q)=q4 at *;generalize M.I9 (some d)=d1 at *;generalize M.I_ (some d)=d2 at *;generalize M.JA (some d)=d3 at *;generalize M.JB (some d)=d4 at *;replace PD:=IU PD;replace PN:=IU PN
  cases pp with
  | none=>
   have hfin:dN (n+1+1) m=none:=hno.out (by rw [hnx.out];exact eB _ _);have hfin:=IU hfin;have e9:=IU mU;rw [e9.out.1,e9.out.2.1,e9.out.2.2.1,e9.out.2.2.2.1,e9.out.2.2.2.2] at PX;replace PX:=IU PX
   go_wp2_with first | (go_at_call 120;(with_reducible refine (PN.out _ hmw.out).mono ?_);rintro e w4 ⟨vo,rfl,Mr,hb4⟩;replace ⟨B,X,S,R⟩:=Ip hb4 B X S R) | (go_at_call 76;with_reducible refine p_ (PD.out _ _ _ Mr) fun w6 hb6=>?_;replace B:=(j_ B hb6).alloc (Nat.le_trans B.size hb6.size) (.cells #[d1,d2,d3,d4] 78);replace X:=(X.keep hb6).alloc (.cells #[d1,d2,d3,d4] 78);replace S:=(S.keep hb6).alloc (.cells #[d1,d2,d3,d4] 78);replace R:=(R.keep hb6).alloc (.cells #[d1,d2,d3,d4] 78);have Y:=aG.new w6 #[d1,d2,d3,d4] 78;(have ⟨Sl,Sm,Sn,So,_,_,_,_,_⟩:=Y.aK);(have ⟨Sg,Si,Sj,Sk,_,_,_,_,_⟩:=X.aK);(have ⟨r0,r1,r2,r3,z0,z1,z2,z3,rl⟩:=R.aK)) | (go_at_call 121;with_reducible refine p_ (PX.out _) fun w7 Ig=>?_;replace B:=(j_ B Ig).alloc (Nat.le_trans B.size Ig.size) (.cells #[(0:Int),(0:Int),(0:Int),(0:Int)] 78);replace S:=(S.keep Ig).alloc (.cells #[(0:Int),(0:Int),(0:Int),(0:Int)] 78);replace R:=(R.keep Ig).alloc (.cells #[(0:Int),(0:Int),(0:Int),(0:Int)] 78);have Z:=aG.new w7 #[(0:Int),(0:Int),(0:Int),(0:Int)] 78;(have ⟨Oj,Ol,Om,Oo,_,_,_,_,_⟩:=Z.aK);(have ⟨NJ,NK,NL,NM,_,_,_,_,_⟩:=S.aK);(have ⟨r0,r1,r2,r3,z0,z1,z2,z3,rl⟩:=R.aK))
   exact D_ (v:=.tuple #[.agg #[(0:Int),(0:Int),(0:Int),(0:Int)],false]) results76 ⟨by rw [hfin.out];rfl,IW (IW (IW (IW B (IY _) _) (IY _) _) (IY _) _) (IY _) _⟩
  | some p=>
  have hps:aJ p.1 p.2=true:=hpo p rfl;have e5:(some p:M.Sp).isSome=true:=rfl;rw [e5] at PX
  have PA:=fun W=>tM s p W hss hps
  have PS:=fun W=>tN s p W hss hps
  have hst:fH (some s) (some p) c=if c % 2=0 then gV (some s) (some p) else dK (some s) (some p):=rfl
  have hnx2:=hnx.out;rw [hst] at hnx2
  obtain ⟨ad,had⟩:∃ x,x=gV (some s) (some p):=⟨_,rfl⟩
  obtain ⟨su,hsu⟩:∃ x,x=dK (some s) (some p):=⟨_,rfl⟩
  rw [←had,←hsu] at hnx2;rw [←had] at PA;rw [←hsu] at PS;generalize M.I9 (some p)=p1 at *;generalize M.I_ (some p)=p2 at *;generalize M.JA (some p)=p3 at *;generalize M.JB (some p)=p4 at *;generalize M.I9 (some s)=s1 at *;generalize M.I_ (some s)=s2 at *;generalize M.JA (some s)=s3 at *;generalize M.JB (some s)=s4 at *;replace PX:=IU PX;have ht:Int.tmod ((c:Nat):Int) 2=((c % 2:Nat):Int):=(Int.ofNat_tmod c 2).symm
  rcases Nat.mod_two_eq_zero_or_one c with hp | hp
  ·rw [hp] at ht
   rw [if_pos hp] at hnx2
   cases ad with
   | none=>
    have hfin:dN (n+1+1) m=none:=hno.out hnx2;have hfin:=IU hfin;have e9:=IU mU;rw [e9.out.1,e9.out.2.1,e9.out.2.2.1,e9.out.2.2.2.1,e9.out.2.2.2.2] at PA;replace PA:=IU PA
    go_wp2_with first | (go_at_call 120;(with_reducible refine (PN.out _ hmw.out).mono ?_);rintro e w4 ⟨vo,rfl,Mr,hb4⟩;replace ⟨B,X,S,R⟩:=Ip hb4 B X S R) | (go_at_call 76;with_reducible refine p_ (PD.out _ _ _ Mr) fun w6 hb6=>?_;replace B:=(j_ B hb6).alloc (Nat.le_trans B.size hb6.size) (.cells #[d1,d2,d3,d4] 78);replace X:=(X.keep hb6).alloc (.cells #[d1,d2,d3,d4] 78);replace S:=(S.keep hb6).alloc (.cells #[d1,d2,d3,d4] 78);replace R:=(R.keep hb6).alloc (.cells #[d1,d2,d3,d4] 78);have Y:=aG.new w6 #[d1,d2,d3,d4] 78;(have ⟨Sl,Sm,Sn,So,_,_,_,_,_⟩:=Y.aK);(have ⟨Sg,Si,Sj,Sk,_,_,_,_,_⟩:=X.aK);(have ⟨r0,r1,r2,r3,z0,z1,z2,z3,rl⟩:=R.aK)) | (go_at_call 121;with_reducible refine p_ (PX.out _) fun w7 Ig=>?_;replace B:=(j_ B Ig).alloc (Nat.le_trans B.size Ig.size) (.cells #[p1,p2,p3,p4] 78);replace S:=(S.keep Ig).alloc (.cells #[p1,p2,p3,p4] 78);replace R:=(R.keep Ig).alloc (.cells #[p1,p2,p3,p4] 78);have Z:=aG.new w7 #[p1,p2,p3,p4] 78;(have ⟨Oj,Ol,Om,Oo,_,_,_,_,_⟩:=Z.aK);(have ⟨NJ,NK,NL,NM,_,_,_,_,_⟩:=S.aK);(have ⟨r0,r1,r2,r3,z0,z1,z2,z3,rl⟩:=R.aK)) | (go_at_call 122;with_reducible refine p_ (PA.out _) fun w8 It=>?_;have SZ:=IU (S.keep It).lt;have QN:=IU (R.keep It).lt;replace B:=(j_ B It).alloc (Nat.le_trans B.size It.size) (.cells #[(0:Int),(0:Int),(0:Int),(0:Int)] 78);replace S:=(S.keep It).alloc (.cells #[(0:Int),(0:Int),(0:Int),(0:Int)] 78);replace R:=(R.keep It).alloc (.cells #[(0:Int),(0:Int),(0:Int),(0:Int)] 78);replace Z:=(Z.keep It).alloc (.cells #[(0:Int),(0:Int),(0:Int),(0:Int)] 78);have N:=aG.new w8 #[(0:Int),(0:Int),(0:Int),(0:Int)] 78;(have ⟨Sb,Sc,Sd,Se,Ss,Su,Sv,Sw,nl⟩:=N.aK);(have ⟨Oj,Ol,Om,Oo,_,_,_,_,_⟩:=Z.aK);(have ⟨NJ,NK,NL,NM,S4,S5,S6,S7,sl⟩:=S.aK);(have ⟨r0,r1,r2,r3,z0,z1,z2,z3,rl⟩:=R.aK))
    exact D_ (v:=.tuple #[.agg #[(0:Int),(0:Int),(0:Int),(0:Int)],false]) results76 ⟨by rw [hfin.out];rfl,IW (IW (IW (IW B (IY _) _) (IY _) _) (IY _) _) (IY _) _⟩
   | some sx=>
   have hnx:=IU hnx2;have e5:(some sx:M.Sp).isSome=true:=rfl;rw [e5] at PA
   obtain ⟨x1,hx1⟩:∃ x,x=M.I9 (some sx):=⟨_,rfl⟩
   obtain ⟨x2,hx2⟩:∃ x,x=M.I_ (some sx):=⟨_,rfl⟩
   obtain ⟨x3,hx3⟩:∃ x,x=M.JA (some sx):=⟨_,rfl⟩
   obtain ⟨x4,hx4⟩:∃ x,x=M.JB (some sx):=⟨_,rfl⟩
   rw [←hx1,←hx2,←hx3,←hx4] at PA;replace hx1:=IU hx1;replace hx2:=IU hx2;replace hx3:=IU hx3;replace hx4:=IU hx4;replace PA:=IU PA
   go_wp2_with first | (go_at_call 120;(with_reducible refine (PN.out _ hmw.out).mono ?_);rintro e w4 ⟨vo,rfl,Mr,hb4⟩;replace ⟨B,X,S,R⟩:=Ip hb4 B X S R) | (go_at_call 76;with_reducible refine p_ (PD.out _ _ _ Mr) fun w6 hb6=>?_;replace B:=(j_ B hb6).alloc (Nat.le_trans B.size hb6.size) (.cells #[d1,d2,d3,d4] 78);replace X:=(X.keep hb6).alloc (.cells #[d1,d2,d3,d4] 78);replace S:=(S.keep hb6).alloc (.cells #[d1,d2,d3,d4] 78);replace R:=(R.keep hb6).alloc (.cells #[d1,d2,d3,d4] 78);have Y:=aG.new w6 #[d1,d2,d3,d4] 78;(have ⟨Sl,Sm,Sn,So,_,_,_,_,_⟩:=Y.aK);(have ⟨Sg,Si,Sj,Sk,_,_,_,_,_⟩:=X.aK);(have ⟨r0,r1,r2,r3,z0,z1,z2,z3,rl⟩:=R.aK)) | (go_at_call 121;with_reducible refine p_ (PX.out _) fun w7 Ig=>?_;replace B:=(j_ B Ig).alloc (Nat.le_trans B.size Ig.size) (.cells #[p1,p2,p3,p4] 78);replace S:=(S.keep Ig).alloc (.cells #[p1,p2,p3,p4] 78);replace R:=(R.keep Ig).alloc (.cells #[p1,p2,p3,p4] 78);have Z:=aG.new w7 #[p1,p2,p3,p4] 78;(have ⟨Oj,Ol,Om,Oo,_,_,_,_,_⟩:=Z.aK);(have ⟨NJ,NK,NL,NM,_,_,_,_,_⟩:=S.aK);(have ⟨r0,r1,r2,r3,z0,z1,z2,z3,rl⟩:=R.aK)) | (go_at_call 122;with_reducible refine p_ (PA.out _) fun w8 It=>?_;have SZ:=IU (S.keep It).lt;have QN:=IU (R.keep It).lt;replace B:=(j_ B It).alloc (Nat.le_trans B.size It.size) (.cells #[x1,x2,x3,x4] 78);replace S:=(S.keep It).alloc (.cells #[x1,x2,x3,x4] 78);replace R:=(R.keep It).alloc (.cells #[x1,x2,x3,x4] 78);replace Z:=(Z.keep It).alloc (.cells #[x1,x2,x3,x4] 78);have N:=aG.new w8 #[x1,x2,x3,x4] 78;(have ⟨Sb,Sc,Sd,Se,Ss,Su,Sv,Sw,nl⟩:=N.aK);(have ⟨Oj,Ol,Om,Oo,_,_,_,_,_⟩:=Z.aK);(have ⟨NJ,NK,NL,NM,S4,S5,S6,S7,sl⟩:=S.aK);(have ⟨r0,r1,r2,r3,z0,z1,z2,z3,rl⟩:=R.aK))
   go_roundw
   case rel=>exact ⟨c+1,sx,ω,ν,hnx,by rw [←hx1.out,←hx2.out,←hx3.out,←hx4.out];exact aG.pR S _ _ _ _,R.jC nRS _ _ _ _,by rw [aS,aS,aS,aS];omega,IW (IW (IW (IW B hsb _) hsb _) hsb _) hsb _⟩
   case measure=>simp [intOf] <;> omega
  rw [hp] at ht;rw [if_neg ω] at hnx2;generalize M.I9 ad=v1 at *;generalize M.I_ ad=v2 at *;generalize M.JA ad=v3 at *;generalize M.JB ad=v4 at *;generalize ad.isSome=fv at *;replace PA:=IU PA
  cases su with
  | none=>
   have hfin:dN (n+1+1) m=none:=hno.out hnx2;have hfin:=IU hfin;have e9:=IU mU;rw [e9.out.1,e9.out.2.1,e9.out.2.2.1,e9.out.2.2.2.1,e9.out.2.2.2.2] at PS;replace PS:=IU PS
   go_wp2_with first | (go_at_call 120;(with_reducible refine (PN.out _ hmw.out).mono ?_);rintro e w4 ⟨vo,rfl,Mr,hb4⟩;replace ⟨B,X,S,R⟩:=Ip hb4 B X S R) | (go_at_call 76;with_reducible refine p_ (PD.out _ _ _ Mr) fun w6 hb6=>?_;replace B:=(j_ B hb6).alloc (Nat.le_trans B.size hb6.size) (.cells #[d1,d2,d3,d4] 78);replace X:=(X.keep hb6).alloc (.cells #[d1,d2,d3,d4] 78);replace S:=(S.keep hb6).alloc (.cells #[d1,d2,d3,d4] 78);replace R:=(R.keep hb6).alloc (.cells #[d1,d2,d3,d4] 78);have Y:=aG.new w6 #[d1,d2,d3,d4] 78;(have ⟨Sl,Sm,Sn,So,_,_,_,_,_⟩:=Y.aK);(have ⟨Sg,Si,Sj,Sk,_,_,_,_,_⟩:=X.aK);(have ⟨r0,r1,r2,r3,z0,z1,z2,z3,rl⟩:=R.aK)) | (go_at_call 121;with_reducible refine p_ (PX.out _) fun w7 Ig=>?_;replace B:=(j_ B Ig).alloc (Nat.le_trans B.size Ig.size) (.cells #[p1,p2,p3,p4] 78);replace S:=(S.keep Ig).alloc (.cells #[p1,p2,p3,p4] 78);replace R:=(R.keep Ig).alloc (.cells #[p1,p2,p3,p4] 78);have Z:=aG.new w7 #[p1,p2,p3,p4] 78;(have ⟨Oj,Ol,Om,Oo,_,_,_,_,_⟩:=Z.aK);(have ⟨NJ,NK,NL,NM,_,_,_,_,_⟩:=S.aK);(have ⟨r0,r1,r2,r3,z0,z1,z2,z3,rl⟩:=R.aK)) | (go_at_call 122;with_reducible refine p_ (PA.out _) fun w8 It=>?_;have SZ:=IU (S.keep It).lt;have QN:=IU (R.keep It).lt;replace B:=(j_ B It).alloc (Nat.le_trans B.size It.size) (.cells #[v1,v2,v3,v4] 78);replace S:=(S.keep It).alloc (.cells #[v1,v2,v3,v4] 78);replace R:=(R.keep It).alloc (.cells #[v1,v2,v3,v4] 78);replace Z:=(Z.keep It).alloc (.cells #[v1,v2,v3,v4] 78);have N:=aG.new w8 #[v1,v2,v3,v4] 78;(have ⟨Sb,Sc,Sd,Se,Ss,Su,Sv,Sw,nl⟩:=N.aK);(have ⟨Oj,Ol,Om,Oo,_,_,_,_,_⟩:=Z.aK);(have ⟨NJ,NK,NL,NM,S4,S5,S6,S7,sl⟩:=S.aK);(have ⟨r0,r1,r2,r3,z0,z1,z2,z3,rl⟩:=R.aK)) | (go_at_call 123;with_reducible refine p_ (PS.out _) fun w9 I2=>?_;(have YS:sb≠w8.heap.size:=by have:=SZ.out;omega);(have YJ:w.heap.size<=w8.heap.size:=by have:=QN.out;omega);(have KH:w.heap.size≠w8.heap.size:=by have:=QN.out;omega);replace B:=IW (IW (IW (IW (j_ B I2) (p:=⟨w8,0,none⟩) (by show w.heap.size<=w8.heap.size;omega) (.int .i64 0)) (p:=⟨w8,1,none⟩) (by show w.heap.size<=w8.heap.size;omega) (.int .i64 0)) (p:=⟨w8,2,none⟩) (by show w.heap.size<=w8.heap.size;omega) (.int .i64 0)) (p:=⟨w8,3,none⟩) (by show w.heap.size<=w8.heap.size;omega) (.int .i64 0);replace S:=(S.keep I2).jC YS (.int .i64 0) (.int .i64 0) (.int .i64 0) (.int .i64 0);replace R:=(R.keep I2).jC KH (.int .i64 0) (.int .i64 0) (.int .i64 0) (.int .i64 0);replace N:=(N.keep I2);(have ⟨Sb,Sc,Sd,Se,Ss,Su,Sv,Sw,nl⟩:=N.aK);replace N:=N.pR (.int .i64 0) (.int .i64 0) (.int .i64 0) (.int .i64 0);(have ⟨km0,km1,km2,km3,_,_,_,_,_⟩:=N.aK);(have ⟨NJ,NK,NL,NM,S4,S5,S6,S7,sl⟩:=S.aK);(have ⟨r0,r1,r2,r3,z0,z1,z2,z3,rl⟩:=R.aK))
   exact D_ (v:=.tuple #[.agg #[(0:Int),(0:Int),(0:Int),(0:Int)],false]) results76 ⟨by rw [hfin.out];rfl,IW (IW (IW (IW B (IY _) _) (IY _) _) (IY _) _) (IY _) _⟩
  | some sx=>
  have hnx:=IU hnx2;have e5:(some sx:M.Sp).isSome=true:=rfl;rw [e5] at PS
  obtain ⟨x1,hx1⟩:∃ x,x=M.I9 (some sx):=⟨_,rfl⟩
  obtain ⟨x2,hx2⟩:∃ x,x=M.I_ (some sx):=⟨_,rfl⟩
  obtain ⟨x3,hx3⟩:∃ x,x=M.JA (some sx):=⟨_,rfl⟩
  obtain ⟨x4,hx4⟩:∃ x,x=M.JB (some sx):=⟨_,rfl⟩
  rw [←hx1,←hx2,←hx3,←hx4] at PS;replace hx1:=IU hx1;replace hx2:=IU hx2;replace hx3:=IU hx3;replace hx4:=IU hx4;replace PS:=IU PS
  go_wp2_with first | (go_at_call 120;(with_reducible refine (PN.out _ hmw.out).mono ?_);rintro e w4 ⟨vo,rfl,Mr,hb4⟩;replace ⟨B,X,S,R⟩:=Ip hb4 B X S R) | (go_at_call 76;with_reducible refine p_ (PD.out _ _ _ Mr) fun w6 hb6=>?_;replace B:=(j_ B hb6).alloc (Nat.le_trans B.size hb6.size) (.cells #[d1,d2,d3,d4] 78);replace X:=(X.keep hb6).alloc (.cells #[d1,d2,d3,d4] 78);replace S:=(S.keep hb6).alloc (.cells #[d1,d2,d3,d4] 78);replace R:=(R.keep hb6).alloc (.cells #[d1,d2,d3,d4] 78);have Y:=aG.new w6 #[d1,d2,d3,d4] 78;(have ⟨Sl,Sm,Sn,So,_,_,_,_,_⟩:=Y.aK);(have ⟨Sg,Si,Sj,Sk,_,_,_,_,_⟩:=X.aK);(have ⟨r0,r1,r2,r3,z0,z1,z2,z3,rl⟩:=R.aK)) | (go_at_call 121;with_reducible refine p_ (PX.out _) fun w7 Ig=>?_;replace B:=(j_ B Ig).alloc (Nat.le_trans B.size Ig.size) (.cells #[p1,p2,p3,p4] 78);replace S:=(S.keep Ig).alloc (.cells #[p1,p2,p3,p4] 78);replace R:=(R.keep Ig).alloc (.cells #[p1,p2,p3,p4] 78);have Z:=aG.new w7 #[p1,p2,p3,p4] 78;(have ⟨Oj,Ol,Om,Oo,_,_,_,_,_⟩:=Z.aK);(have ⟨NJ,NK,NL,NM,_,_,_,_,_⟩:=S.aK);(have ⟨r0,r1,r2,r3,z0,z1,z2,z3,rl⟩:=R.aK)) | (go_at_call 122;with_reducible refine p_ (PA.out _) fun w8 It=>?_;have SZ:=IU (S.keep It).lt;have QN:=IU (R.keep It).lt;replace B:=(j_ B It).alloc (Nat.le_trans B.size It.size) (.cells #[v1,v2,v3,v4] 78);replace S:=(S.keep It).alloc (.cells #[v1,v2,v3,v4] 78);replace R:=(R.keep It).alloc (.cells #[v1,v2,v3,v4] 78);replace Z:=(Z.keep It).alloc (.cells #[v1,v2,v3,v4] 78);have N:=aG.new w8 #[v1,v2,v3,v4] 78;(have ⟨Sb,Sc,Sd,Se,Ss,Su,Sv,Sw,nl⟩:=N.aK);(have ⟨Oj,Ol,Om,Oo,_,_,_,_,_⟩:=Z.aK);(have ⟨NJ,NK,NL,NM,S4,S5,S6,S7,sl⟩:=S.aK);(have ⟨r0,r1,r2,r3,z0,z1,z2,z3,rl⟩:=R.aK)) | (go_at_call 123;with_reducible refine p_ (PS.out _) fun w9 I2=>?_;(have YS:sb≠w8.heap.size:=by have:=SZ.out;omega);(have YJ:w.heap.size<=w8.heap.size:=by have:=QN.out;omega);(have KH:w.heap.size≠w8.heap.size:=by have:=QN.out;omega);replace B:=IW (IW (IW (IW (j_ B I2) (p:=⟨w8,0,none⟩) (by show w.heap.size<=w8.heap.size;omega) (.int .i64 x1)) (p:=⟨w8,1,none⟩) (by show w.heap.size<=w8.heap.size;omega) (.int .i64 x2)) (p:=⟨w8,2,none⟩) (by show w.heap.size<=w8.heap.size;omega) (.int .i64 x3)) (p:=⟨w8,3,none⟩) (by show w.heap.size<=w8.heap.size;omega) (.int .i64 x4);replace S:=(S.keep I2).jC YS (.int .i64 x1) (.int .i64 x2) (.int .i64 x3) (.int .i64 x4);replace R:=(R.keep I2).jC KH (.int .i64 x1) (.int .i64 x2) (.int .i64 x3) (.int .i64 x4);replace N:=(N.keep I2);(have ⟨Sb,Sc,Sd,Se,Ss,Su,Sv,Sw,nl⟩:=N.aK);replace N:=N.pR (.int .i64 x1) (.int .i64 x2) (.int .i64 x3) (.int .i64 x4);(have ⟨km0,km1,km2,km3,_,_,_,_,_⟩:=N.aK);(have ⟨NJ,NK,NL,NM,S4,S5,S6,S7,sl⟩:=S.aK);(have ⟨r0,r1,r2,r3,z0,z1,z2,z3,rl⟩:=R.aK))
  go_roundw
  case rel=>exact ⟨c+1,sx,ω,ν,hnx,by rw [←hx1.out,←hx2.out,←hx3.out,←hx4.out];exact aG.pR S _ _ _ _,R.jC nRS _ _ _ _,by rw [aS,aS,aS,aS];omega,IW (IW (IW (IW B hsb _) hsb _) hsb _) hsb _⟩
  case measure=>simp [intOf] <;> omega
 obtain rfl:c=n+2:=ω
 have hd:dN (n+1+1) m=some s:=by rw [←hs.out];exact hsome.out
 have hd:=IU hd
 obtain ⟨x1,hx1⟩:∃ x,x=M.I9 (some s):=⟨_,rfl⟩
 obtain ⟨x2,hx2⟩:∃ x,x=M.I_ (some s):=⟨_,rfl⟩
 obtain ⟨x3,hx3⟩:∃ x,x=M.JA (some s):=⟨_,rfl⟩
 obtain ⟨x4,hx4⟩:∃ x,x=M.JB (some s):=⟨_,rfl⟩
 rw [←hx1,←hx2,←hx3,←hx4] at S;replace hx1:=IU hx1;replace hx2:=IU hx2;replace hx3:=IU hx3;replace hx4:=IU hx4;have ⟨NJ,NK,NL,NM,_,_,_,_,_⟩:=S.aK;have ⟨r0,r1,r2,r3,z0,z1,z2,z3,rl⟩:=R.aK;go_wp2;exact D_ (v:=.tuple #[.agg #[x1,x2,x3,x4],true]) results76 ⟨by rw [hd.out,hx1.out,hx2.out,hx3.out,hx4.out];rfl,IW (IW (IW (IW B (IY _) _) (IY _) _) (IY _) _) (IY _) _⟩
namespace M
theorem Dv {a b:Int} {l:List Pt} {i j:Nat}:Jo (ent a b l i j):=by
 have hp:∀ X1 Y1 E1 X2 Y2 E2,Jo (d7 a b X1 Y1 E1 X2 Y2 E2):=fun X1 Y1 E1 X2 Y2 E2=>by
  unfold d7
  split
  ·exact mZ
  exact fF
 unfold ent
 split
 ·split
  ·exact wt
  split <;> exact hp _ _ _ _ _ _
 exact fF
theorem ov {s:Sp} (h:s.isSome=true):some (UA s)=s:=by
 cases s with
 | none=>cases h
 | some p=>rfl
theorem qf {a b:Int} {l:List Pt} (h:J3 a b l=true) {i j:Nat} (hi:i<l.length) (hj:j<l.length):(ent a b l i j).isSome=true:=by
 unfold J3 at h;simp only [List.all_eq_true,List.mem_range] at h;exact h i hi j hj
theorem kU {a b:Int} {l:List Pt} (h:J3 a b l=true):fG a b l=(List.range l.length).map (fun i=>(List.range l.length).map fun j=>UA (ent a b l i j)):=by
 unfold fG;rw [h];rfl
theorem oh {a b:Int} {l:List Pt} (h:J3 a b l=true):square l.length (fG a b l):=by
 rw [kU h];refine ⟨by rw [List.length_map,List.length_range],fun r hr=>?_⟩;obtain ⟨i,hi,rfl⟩:=List.mem_map.1 hr;rw [List.length_map,List.length_range]
theorem oc {a b:Int} {l:List Pt} (h:J3 a b l=true):Qh (fG a b l):=by
 rw [kU h];intro r hr q hq;obtain ⟨i,hi,rfl⟩:=List.mem_map.1 hr;obtain ⟨j,hj,rfl⟩:=List.mem_map.1 hq;have:=qf h (List.mem_range.1 hi) (List.mem_range.1 hj);exact Dv (a:=a) (b:=b) (l:=l) (i:=i) (j:=j) _ (ov this).symm
theorem BU {a b:Int} {l:List Pt} (h:J3 a b l=true):pu a b l=LR (fG a b l):=by
 rw [pv h,kU h];unfold LR mJ;rw [List.map_map]
 refine List.map_congr_left fun i hi=>?_
 simp only [Function.comp,List.map_map]
 refine List.map_congr_left fun j hj=>?_
 simp only [Function.comp];rw [ov (qf h (List.mem_range.1 hi) (List.mem_range.1 hj))]
noncomputable def gR (a b:Int) (l:List Pt):Sp:=if J3 a b l=true then dN l.length (fG a b l) else none
theorem mb {a b:Int} {l:List Pt} (h:J3 a b l=false):gR a b l=none:=by unfold gR;rw [h];rfl
theorem kX {a b:Int} {l:List Pt} (h:J3 a b l=true):gR a b l=dN l.length (fG a b l):=by unfold gR;rw [h];rfl
theorem xu (n:Nat) (m:JE):iX true n m=dN n m:=by
 unfold iX
 split
 ·rename_i h;rw [h]
 rfl
end M
theorem tp (a b:Int) (v:Value) (l:List Pt) (w:World) (hx:dj w v l) (hg:M.good a b=true) (h1:1<=l.length) (hn:l.length<=4) (hp:∀ p ∈ l,aP a b p.1 p.2.1 p.2.2=true) :
  cB 38 #[.agg #[a,b],v] w (.tuple #[.agg #[M.Iy (gR a b l),M.I3 (gR a b l)],.bool (gR a b l).isSome]):=by
 obtain ⟨n,hl⟩:∃ n,l.length=n+1:=⟨l.length - 1,ω⟩
 have PM:=fun W h=>mK a b v l W h hg hn hp
 have PD:=fun (h:M.J3 a b l=true) v g base W hm K=>HY n (fG a b l) v g base true W ω (by rw [←hl];exact oh h) (oc h) hm K
 have OC:=fun h=>kX (a:=a) (b:=b) (l:=l) h
 have hrn:=fun h=>mb (a:=a) (b:=b) (l:=l) h
 rw [hl] at OC;generalize fG a b l=rows,gR a b l=rs at *;replace hx:=IU hx;obtain ⟨wc,hw3,C,R,B⟩:=eC w #[a,b] 25 #[(0:Int),(0:Int)] 74;have hxc:=IU (hx.out.below B)
 have hzz:w.heap.size+2<=wc.heap.size:=by have:=R.lt;omega
 have f_:=C.box.c0;have i_:=C.box.c1
 cases hm:M.J3 a b l with
 | false=>
  rw [hm] at PM;have hfin:=IU (hrn hm);replace PM:=IU PM;clear PD OC hrn hm;go_enter func38,ntmps38
  go_wp2_with (go_at_call 72;(with_reducible refine (PM.out _ hxc.out).mono ?_);rintro e w4 ⟨mv,rfl,hM,hb4⟩;replace ⟨B,R⟩:=Im hb4 B R;(have ⟨r0,r1,z0,z1,rl⟩:=R.box))
  exact D_ (v:=.tuple #[.agg #[(0:Int),(0:Int)],false]) results38 ⟨by rw [hfin.out];rfl,IW (IW B σ _) σ _⟩
 | true=>
 rw [hm] at PM;replace PD:=PD hm;simp only [xu,Bool.true_and] at PD;rw [←OC hm] at PD;replace PM:=IU PM;replace PD:=IU PD;generalize M.I3 rs=hi,M.Iy rs=lo,rs.isSome=f at *;clear OC hrn hm;go_enter func38,ntmps38
 go_wp2_with first | (go_at_call 72;(with_reducible refine (PM.out _ hxc.out).mono ?_);rintro e w4 ⟨mv,rfl,hM,hb4⟩;have Ji:=hb4.size;have Ba:=(IX w4 w4).alloc (IY _) (.cells #[true] 103);have K:=aG.new w4 #[true] 103;replace hM:=IU (hM.below Ba);replace R:=(R.keep hb4).keep Ba;replace B:=(j_ B hb4).trans (Ba.mono (Nat.le_trans B.size hb4.size));(have nR:w.heap.size+1≠w4.heap.size:=by omega);have hsz:=B.size;(have nB:w.heap.size<=w4.heap.size:=by omega);clear Ba f_ i_ C hxc) | (go_at_call 73;(with_reducible refine (PD.out _ _ _ _ hM.out K).mono ?_);rintro e w6 ⟨rfl,hb6⟩;have Ig:=bC hb6;replace R:=(R.other (i:=0) nR (.bool f)).keep Ig;replace K:=(K.one (.bool f)).keep Ig;replace B:=(IW B nB (.bool f)).trans (hb6.mono hsz);have Ba:=(IX w6 w6).alloc (IY _) (.cells #[lo,hi] 74);have V:=aG.new w6 #[lo,hi] 74;replace ⟨B,R,K⟩:=I7 Ba B R K;have k0:=K.cell 0;(have ⟨v0,v1,_,_,_⟩:=V.box);(have ⟨r0,r1,z0,z1,rl⟩:=R.box);clear hb6 Ig Ba)
 go_region
 all_goals
  go_wp2;exact D_ results38 ⟨rfl,Below.drew (IW (IW B σ _) σ _)⟩
theorem pI (a b:Int) (v:Value) (l:List Pt) (w:World) (hx:dj w v l) (hg:M.good a b=true) (h1:1<=l.length) (hn:l.length<=4) (hp:∀ p ∈ l,aP a b p.1 p.2.1 p.2.2=true) :
  cB 40 #[.agg #[a,b],v] w (.tuple #[.agg #[M.I9 (gR a b l),M.I_ (gR a b l),M.JA (gR a b l),M.JB (gR a b l)],.bool (gR a b l).isSome]):=by
 obtain ⟨n,hl⟩:∃ n,l.length=n+1:=⟨l.length - 1,ω⟩
 have PM:=fun W h=>uk a b v l W h hg hn hp
 have PD:=fun (h:M.J3 a b l=true) v base W hm=>Df n (fG a b l) v base W ω (by rw [←hl];exact oh h) (oc h) hm
 have OC:=fun h=>kX (a:=a) (b:=b) (l:=l) h
 have hrn:=fun h=>mb (a:=a) (b:=b) (l:=l) h
 have hiv:=fun h=>BU (a:=a) (b:=b) (l:=l) h
 rw [hl] at OC;generalize fG a b l=rows,gR a b l=rs at *;replace hx:=IU hx;obtain ⟨wc,hw3,C,R,B⟩:=eC w #[a,b] 25 #[(0:Int),(0:Int),(0:Int),(0:Int)] 78;have hxc:=IU (hx.out.below B);have f_:=C.box.c0;have i_:=C.box.c1
 cases hm:M.J3 a b l with
 | false=>
  rw [hm] at PM;have hfin:=IU (hrn hm);replace PM:=IU PM;clear PD OC hrn hm;go_enter func40,ntmps40
  go_wp2_with (go_at_call 75;(with_reducible refine (PM.out _ hxc.out).mono ?_);rintro e w4 ⟨mv,rfl,hM,hb4⟩;replace ⟨B,R⟩:=Im hb4 B R;(have ⟨r0,r1,r2,r3,z0,z1,z2,z3,rl⟩:=R.aK))
  exact D_ (v:=.tuple #[.agg #[(0:Int),(0:Int),(0:Int),(0:Int)],false]) results40 ⟨by rw [hfin.out];rfl,IW (IW (IW (IW B σ _) σ _) σ _) σ _⟩
 | true=>
 rw [hm] at PM;replace PD:=PD hm;rw [←OC hm] at PD;rw [hiv hm] at PM;replace PM:=IU PM;replace PD:=IU PD;generalize M.JB rs=i4,M.JA rs=i3,M.I_ rs=i2,M.I9 rs=i1,rs.isSome=f at *;clear OC hrn hm hiv;go_enter func40,ntmps40
 go_wp2_with first | (go_at_call 75;(with_reducible refine (PM.out _ hxc.out).mono ?_);rintro e w4 ⟨mv,rfl,hM,hb4⟩;replace hM:=IU hM;replace ⟨B,R⟩:=Im hb4 B R) | (go_at_call 76;(with_reducible refine (PD.out _ _ _ hM.out).mono ?_);rintro e w6 ⟨rfl,hb6⟩;replace ⟨B,R⟩:=Im hb6 B R;(have ⟨r0,r1,r2,r3,z0,z1,z2,z3,rl⟩:=R.aK))
 exact D_ results40 ⟨rfl,IW (IW (IW (IW B σ _) σ _) σ _) σ _⟩
end
section
open Gr M Rg Rw Wh
namespace M
open r_
def PL (l:List Pt) (i:Nat):r_:=match l[i]? with
 | some p=>cg p.1 p.2.1 p.2.2
 | none=>.O
theorem jU {a b:Int} {l:List Pt} (h:bP a b l=true):good a b=true/\1<=l.length/\l.length<=4/\∀ p ∈ l,aP a b p.1 p.2.1 p.2.2=true:=by
 unfold bP at h;rw [Bool.and_eq_true,Bool.and_eq_true,List.all_eq_true] at h;obtain ⟨h1,h2⟩:=bT.1 h.1.2;exact ⟨h.1.1,ω,ω,h.2⟩
theorem zK {l:List Pt} {i:Nat} {p:Pt} (h:l[i]?=some p):PL l i=cg p.1 p.2.1 p.2.2:=by
 unfold PL;rw [h]
theorem HF {a b:Int} {l:List Pt} (h:∀ p ∈ l,aP a b p.1 p.2.1 p.2.2=true) (i:Nat):On a b (PL l i):=by
 unfold PL
 cases e:l[i]? with
 | none=>trivial
 | some p=>exact dt (h p (List.mem_of_getElem? e))
theorem DN {a b:Int} {l:List Pt} (hg:good a b=true) (h:∀ p ∈ l,aP a b p.1 p.2.1 p.2.2=true) {i j:Nat} {p:Int × Int} (e:ent a b l i j=some p):Jl (fun n=>pr a (PL l j) (PL l i) n) p.1 p.2:=by
 unfold ent at e
 cases hi:l[i]? with
 | none=>rw [hi] at e;cases e
 | some P=>
 cases hj:l[j]? with
 | none=>rw [hi,hj] at e;cases e
 | some Q=>
 rw [hi,hj] at e
 dsimp only at e
 have hP:=h P (List.mem_of_getElem? hi);have hQ:=h Q (List.mem_of_getElem? hj);rw [zK hi,zK hj]
 split at e
 ·rename_i q
  subst q;rw [hi] at hj;obtain rfl:=Option.some.inj hj;exact CS hg hP e
 split at e
 ·exact (tX hg hP hQ e).cl (Cl.of fun n=>D3 (dk hg) (dt hP) (dt hQ) n)
 exact tX hg hQ hP e
theorem Gh {a b:Int} {l:List Pt} {p:Int × Int} (h:bP a b l=true) (e:gR a b l=some p):∃ k,l.length=k+1/\HK k (fun n=>Dt.JO (k+1) fun i q=>pr a (PL l q) (PL l i) n) p.1 p.2:=by
 obtain ⟨hg,h1,-,hall⟩:=jU h
 obtain ⟨k,hk⟩:∃ k,l.length=k+1:=⟨l.length - 1,ω⟩
 refine ⟨k,hk,?_⟩
 cases hm:J3 a b l with
 | false=>rw [mb hm] at e;cases e
 | true=>
 rw [kX hm,hk] at e;obtain ⟨s1,s2⟩:=oh hm;rw [hk] at s1 s2;refine AU k (fG a b l) (fun n i q=>pr a (PL l q) (PL l i) n) p s1 s2 ?_ e;intro i j r q hr hq;rw [kU hm,List.getElem?_map] at hr;obtain ⟨i',hi,rfl⟩:=Option.map_eq_some_iff.1 hr;have hi0:=(List.getElem?_eq_some_iff.1 hi).1;rw [List.length_range] at hi0;rw [List.getElem?_range hi0] at hi;obtain rfl:=Option.some.inj hi;rw [List.getElem?_map] at hq;obtain ⟨j',hj,rfl⟩:=Option.map_eq_some_iff.1 hq;have hj0:=(List.getElem?_eq_some_iff.1 hj).1;rw [List.length_range] at hj0;rw [List.getElem?_range hj0] at hj;obtain rfl:=Option.some.inj hj;exact DN hg hall (ov (qf hm hi0 hj0)).symm
theorem EJ {a b:Int} {l:List Pt} {p:Int × Int} (h:bP a b l=true) (e:gR a b l=some p) {v:Nat->Int} {j m:Nat} (hj:j<l.length) (hv:v j≠0) (hm:m≠0) (h0:r_.mul a m (Od a (PL l) v l.length)=.O):p.1<=0:=by
 obtain ⟨k,hk,H⟩:=Gh h e;obtain ⟨hg,-,-,hall⟩:=jU h;rw [hk] at hj h0;exact EL (dk hg) (HF hall) hm h0 hj hv H
end M
end
section
open Go.RowKit open Gr M Rg Rw Wh
namespace M
noncomputable def J1 (a b X Y E n:Int):Option Ib:=if (eI a b X Y E && ins n (-12) 12)=true then gD a X Y E n else none
end M
theorem Rw.Own.rR {α:Type} {E:Rw.Enc α} {w:World} {base k i:Nat} {v:Value} {xs:List α} (h:Rw.Own E w base v xs) (hk:k<base) (x:Value):Rw.Own E (w.setCell ⟨k,i,none⟩ x) base v xs:=
 h.kept (Gr.set (World.grownBy.refl _ _) _ _) (fun g hg e=>by
  injection hg with hg
  have:=(h.lt _ e).1
  omega)
def Fb (k:Nat) (r:Option M.Ib) (v:Value) (base:Nat) (W:World):Prop:=∃ l,Rw.Own Ka W base v l/\(r.isSome=true->l.length=k/\(1<=k->l[k - 1]?=r))
theorem tS (a b X Y E:Int) (k:Nat) (w:World) (hg:M.good a b=true) (hp:aP a b X Y E=true) (hk:k<=12) :
  Calls prog 108 #[.agg #[a,b],.agg #[X,Y,E],.int .i64 (k:Int)] w fun e w'=>∃ v',e=.returned (.tuple #[v',.bool (M.JT a X Y E k).isSome])/\Fb k (M.JT a X Y E k) v' w w'/\Below w w w':=by
 have PA:=fun (p:M.Ib) (h:aP a b p.1 p.2.1 p.2.2=true) W=>dz a b p.1 p.2.1 p.2.2 X Y E W hg h hp
 have HT:=gS hg hp
 obtain ⟨res,hres⟩:∃ r,M.JT a X Y E k=r:=⟨_,rfl⟩
 rw [hres];replace hres:=IU hres;replace PA:=IU PA;replace HT:=IU HT
 have hnext:=IU fun (n:Nat) (p:M.Ib) (h:M.JT a X Y E n=some p)=>fI h
 have hnone:=IU fun (n:Nat) (h:M.JT a X Y E n=none) (hn:n<=k)=>gE h k hn
 clear hg hp;obtain ⟨wc,hw3,C,Q,B⟩:=eC w #[a,b] 25 #[X,Y,E] 40;have O:=aG.new wc #[(0:Int),(0:Int),(0:Int)] 40;have Qc:=B.size;have Tc:=Q.lt;replace B:=B.alloc Qc (.cells #[(0:Int),(0:Int),(0:Int)] 40);replace C:=C.alloc (.cells #[(0:Int),(0:Int),(0:Int)] 40);replace Q:=Q.alloc (.cells #[(0:Int),(0:Int),(0:Int)] 40);have hol:=O.lt;go_enter func108,ntmps108
 go_wp2;generalize wc.heap.size=ko at *
 go_loopw [8,14] (fun vs vi wq=>∃ (j:Nat) (p:M.Ib) (l:List M.Ib),j<=k/\vi=.int .i64 j/\Hid (M.JT a X Y E j=some p)/\Hid (l.length=j/\(1<=j->l[j - 1]?=some p))/\Hid (Rw.Own Ka wq (ko+1) vs l)/\Below w w wq/\aG wq ko 40 #[p.1,p.2.1,p.2.2]/\aG wq w 25 #[a,b]/\aG wq (w.heap.size+1) 40 #[X,Y,E]/\ko+1<=wq.heap.size) (fun _ vi _=>k - (intOf vi).toNat)
 case atStart=>exact ⟨0,(0,0,0),[],ω,rfl,IU rfl,IU ⟨rfl,fun h=>ω⟩,IU (Rw.Own.nil Ka _ _),B,O,C,Q,hol⟩
 case round=>
 clear B O C Q;obtain ⟨j,⟨px,py,pe⟩,l,hj,rfl,ht,hl,hown,B,O,C,Q,hko⟩:=hrel
 by_cases hlt:j<k
 ·have hnx:=hnext.out _ _ ht.out
  have hno:=hnone.out (j+1);replace PA:=PA.out _ (HT.out _ _ ht.out)
  dsimp only at hnx PA O
  generalize bB a px py pe X Y E=o3,cJ a px py pe X Y E=E3,dC a px py pe X Y E=Y3,cK a px py pe X Y E=X3 at *;have ⟨c0,c1,_,_,_⟩:=C.box;have ⟨q0,q1,q2⟩:=Q.aM;have ⟨o0,o1,o2⟩:=O.aM;replace PA:=IU PA;clear hnext hnone
  have hie:(j:Int)<(k:Int):=ω
  cases o3 with
  | false=>
   have hnn:res=none:=hres.out.symm.trans (hno (hnx.trans (if_neg δ)) ω);subst hnn;clear hno hres hnx ht
   go_wp2_with (go_at_call 50;with_reducible refine p_ (PA.out _) fun w4 hb4=>?_;have Ji:=(j_ B hb4).size;replace B:=(j_ B hb4).alloc Ji (.cells #[X3,Y3,E3] 40))
   go_ret2;exact ⟨.slice none 0 0,rfl,⟨[],Rw.Own.nil Ka _ _,fun h=>by cases h⟩,B⟩
  | true=>
  replace hnx:=IU (hnx.trans (if_pos rfl));clear hno ht;have hol:=O.lt;obtain ⟨Av,cv,rfl,-,-,-⟩:=hown.out.seen;have hll:=hl.out.1;rw [hll] at hown ⊢;replace hll:=IU hll;clear hl;have Kp:=B.size
  go_upto_region 9 with (go_at_call 50;with_reducible refine p_ (PA.out _) fun w4 hb4=>?_;have Ji:=hb4.size;have hz5:=(j_ B hb4).size;replace B:=(j_ B hb4).alloc hz5 (.cells #[X3,Y3,E3] 40);replace C:=(C.keep hb4).alloc (.cells #[X3,Y3,E3] 40);replace Q:=(Q.keep hb4).alloc (.cells #[X3,Y3,E3] 40);replace O:=(O.keep hb4).alloc (.cells #[X3,Y3,E3] 40);replace hown:=IU ((hown.out.below hb4).alloc (.cells #[X3,Y3,E3] 40));have V:=aG.new w4 #[X3,Y3,E3] 40;(have ⟨v0,v1,v2⟩:=V.aM);(have ⟨o0,o1,o2,z0,z1,z2⟩:=O.bJ))
  have hw4:ko+1<=(w4.alloc (.cells #[X3,Y3,E3] 40)).heap.size:=by rw [IV];omega
  replace B:Below w w _:=IW (IW (IW B (p:=⟨ko,0,none⟩) (by dsimp only;omega) (.int .i64 X3)) (p:=⟨ko,1,none⟩) (by dsimp only;omega) (.int .i64 Y3)) (p:=⟨ko,2,none⟩) (by dsimp only;omega) (.int .i64 E3);replace C:=((C.other (k:=ko) (i:=0) ω (.int .i64 X3)).other (k:=ko) (i:=1) ω (.int .i64 Y3)).other (k:=ko) (i:=2) ω (.int .i64 E3);replace Q:=((Q.other (k:=ko) (i:=0) ω (.int .i64 X3)).other (k:=ko) (i:=1) ω (.int .i64 Y3)).other (k:=ko) (i:=2) ω (.int .i64 E3);replace O:=O.ou (.int .i64 X3) (.int .i64 Y3) (.int .i64 E3);replace hown:=IU (((hown.out.rR (k:=ko) ω (i:=0) (.int .i64 X3)).rR (k:=ko) ω (i:=1) (.int .i64 Y3)).rR (k:=ko) ω (i:=2) (.int .i64 E3));clear v0 v1 v2 o0 o1 o2 z0 z1 z2 V c0 c1 q0 q1 q2
  replace hw4:ko+1<=((((w4.alloc (.cells #[X3,Y3,E3] 40)).setCell ⟨ko,0,none⟩ (.int .i64 X3)).setCell ⟨ko,1,none⟩ (.int .i64 Y3)).setCell ⟨ko,2,none⟩ (.int .i64 E3)).heap.size:=by simpa [World.setCell] using hw4
  generalize (((w4.alloc (.cells #[X3,Y3,E3] 40)).setCell ⟨ko,0,none⟩ (.int .i64 X3)).setCell ⟨ko,1,none⟩ (.int .i64 Y3)).setCell ⟨ko,2,none⟩ (.int .i64 E3)=w8 at *;have ⟨o0,o1,o2⟩:=O.aM;have Lg:=B.size
  go_wp2_with (at_builtin;refine oi iK (ko+1) [(X3,Y3,E3)] l _ ⟨_,0,none⟩ 1 1 (by rfl) (by rfl) (.tmp 26) (.tmp 28) (by rfl) (by rfl) (by rfl) (gJ X3 Y3 E3 σ) (hown.out.alloc _) (by simp;omega) (by have:=hll.out;simp;omega) ?_;intro v6 w6 hown6 Ku Py)
  have MS:=Ku.size;rw [IV] at MS
  go_roundw
  case rel=>
   refine ⟨j+1,(X3,Y3,E3),l ++ [(X3,Y3,E3)],ω,ν,hnx,IU ⟨by rw [List.length_append,hll.out];rfl,fun _=>by rw [show j+1 - 1=l.length from by have:=hll.out;omega];simp⟩,IU hown6,?_,(O.alloc _).mC Ku ?_,(C.alloc _).mC Ku ?_,(Q.alloc _).mC Ku ?_,ω⟩
   ·exact Below.grown (B.alloc Lg _) Ku (by rw [IV];omega) fun k hk=>by have:=(hown.out.lt k hk).1;omega
   all_goals exact fun k hk=>by have:=(hown.out.lt k hk).1;omega
  case measure=>simp [intOf];omega
 obtain rfl:j=k:=ω
 obtain rfl:res=some (px,py,pe):=hres.out.symm.trans ht.out;obtain ⟨Av,cv,rfl,-,-,-⟩:=hown.out.seen;go_wp2;go_ret2;exact ⟨_,rfl,⟨l,hown.out.down ω,fun _=>hl.out⟩,B⟩
theorem jf (a b X Y E n:Int) (w:World) :
  cB 103 #[.agg #[a,b],.agg #[X,Y,E],n] w (.tuple #[.agg #[M.pX (M.J1 a b X Y E n),M.pY (M.J1 a b X Y E n),M.pE (M.J1 a b X Y E n)],.bool (M.J1 a b X Y E n).isSome]):=by
 have PT:∀ W,cB 51 #[.agg #[a,b],.agg #[X,Y,E]] W (eI a b X Y E):=fun W=>gI a b X Y E W
 have PN:∀ W,cP 35 #[n,(-12:Int),(12:Int)] W (M.ins n (-12) 12):=fun W=>dW n (-12) 12 W
 unfold M.J1;obtain ⟨wc,hw3,C,Q,R,B⟩:=dB w #[a,b] 25 #[X,Y,E] 40 #[(0:Int),(0:Int),(0:Int)] 40;have f_:=C.box.c0;have i_:=C.box.c1;have ⟨q0,q1,q2,y0,y1,y2⟩:=Q.bJ
 have zQ:w.heap.size+1≠w.heap.size+1+1:=ω
 cases h0:eI a b X Y E with
 | false=>
  simp only [h0,Bool.true_and,Bool.false_and,Bool.and_false] at PT PN ⊢;replace PT:=IU PT;replace PN:=IU PN;rw [if_neg δ];go_enter func103,ntmps103
  go_wp2_with (first | (go_at_call 51;with_reducible refine p_ (PT.out _) fun w4 hb4=>?_;replace ⟨B,C,Q,R⟩:=Ip hb4 B C Q R;have f_:=C.box.c0;have i_:=C.box.c1;(have ⟨q0,q1,q2,y0,y1,y2⟩:=Q.bJ);(have ⟨r0,r1,r2,z0,z1,z2⟩:=R.bJ)) | (go_at_call 35;with_reducible refine Id (PN.out _) ?_))
  exact D_ results103 ⟨rfl,JW B⟩
 | true=>
 cases h1:M.ins n (-12) 12 with
 | false=>
  simp only [h0,h1,Bool.true_and,Bool.false_and,Bool.and_false] at PT PN ⊢;replace PT:=IU PT;replace PN:=IU PN;rw [if_neg δ];go_enter func103,ntmps103
  go_wp2_with (first | (go_at_call 51;with_reducible refine p_ (PT.out _) fun w4 hb4=>?_;replace ⟨B,C,Q,R⟩:=Ip hb4 B C Q R;have f_:=C.box.c0;have i_:=C.box.c1;(have ⟨q0,q1,q2,y0,y1,y2⟩:=Q.bJ);(have ⟨r0,r1,r2,z0,z1,z2⟩:=R.bJ)) | (go_at_call 35;with_reducible refine Id (PN.out _) ?_))
  exact D_ results103 ⟨rfl,JW B⟩
 | true=>
 simp only [h0,h1,Bool.and_self] at PT PN ⊢;rw [if_pos trivial];obtain ⟨hg,hp⟩:=gP h0;obtain ⟨n1,n2⟩:=bT.1 h1;replace PT:=IU PT;replace PN:=IU PN;clear h0 h1
 have PP:=fun W=>gu a b X Y E n W hg hp ω ω
 generalize (gD a X Y E n).isSome=ok,M.pE (gD a X Y E n)=x3,M.pY (gD a X Y E n)=x2,M.pX (gD a X Y E n)=x1 at *;replace PP:=IU PP;clear hg hp;go_enter func103,ntmps103
 go_wp2_with (first | (go_at_call 51;with_reducible refine p_ (PT.out _) fun w4 hb4=>?_;replace ⟨B,C,Q,R⟩:=Ip hb4 B C Q R;have f_:=C.box.c0;have i_:=C.box.c1;(have ⟨q0,q1,q2,y0,y1,y2⟩:=Q.bJ);(have ⟨r0,r1,r2,z0,z1,z2⟩:=R.bJ)) | (go_at_call 35;with_reducible refine Id (PN.out _) ?_) | (go_at_call 81;with_reducible refine p_ (PP.out _) fun w6 hb6=>?_;replace ⟨B,C,Q,R⟩:=Ip hb6 B C Q R;have f_:=C.box.c0;have i_:=C.box.c1;(have ⟨q0,q1,q2,y0,y1,y2⟩:=Q.bJ);(have ⟨r0,r1,r2,z0,z1,z2⟩:=R.bJ)))
 exact D_ results103 ⟨rfl,JW B⟩
theorem jZ (a b X Y E n:Int) (w:World) :
  cB 66 #[.agg #[a,b],.agg #[X,Y,E],n] w (.tuple #[.agg #[M.pX (M.J1 a b X Y E n),M.pY (M.J1 a b X Y E n),M.pE (M.J1 a b X Y E n)],.bool (M.J1 a b X Y E n).isSome]):=by
 have PT:∀ W,cB 47 #[.agg #[a,b],.agg #[X,Y,E]] W (eI a b X Y E):=fun W=>jP a b X Y E W
 have PN:∀ W,cP 28 #[n,(-12:Int),(12:Int)] W (M.ins n (-12) 12):=fun W=>dV n (-12) 12 W
 unfold M.J1;obtain ⟨wc,hw3,C,Q,R,B⟩:=dB w #[a,b] 25 #[X,Y,E] 40 #[(0:Int),(0:Int),(0:Int)] 40;have f_:=C.box.c0;have i_:=C.box.c1;have ⟨q0,q1,q2,y0,y1,y2⟩:=Q.bJ
 have zQ:w.heap.size+1≠w.heap.size+1+1:=ω
 cases h0:eI a b X Y E with
 | false=>
  simp only [h0,Bool.true_and,Bool.false_and,Bool.and_false] at PT PN ⊢;replace PT:=IU PT;replace PN:=IU PN;rw [if_neg δ];go_enter func66,ntmps66
  go_wp2_with (first | (go_at_call 47;with_reducible refine p_ (PT.out _) fun w4 hb4=>?_;replace ⟨B,C,Q,R⟩:=Ip hb4 B C Q R;have f_:=C.box.c0;have i_:=C.box.c1;(have ⟨q0,q1,q2,y0,y1,y2⟩:=Q.bJ);(have ⟨r0,r1,r2,z0,z1,z2⟩:=R.bJ)) | (go_at_call 28;with_reducible refine Id (PN.out _) ?_))
  exact D_ results66 ⟨rfl,JW B⟩
 | true=>
 cases h1:M.ins n (-12) 12 with
 | false=>
  simp only [h0,h1,Bool.true_and,Bool.false_and,Bool.and_false] at PT PN ⊢;replace PT:=IU PT;replace PN:=IU PN;rw [if_neg δ];go_enter func66,ntmps66
  go_wp2_with (first | (go_at_call 47;with_reducible refine p_ (PT.out _) fun w4 hb4=>?_;replace ⟨B,C,Q,R⟩:=Ip hb4 B C Q R;have f_:=C.box.c0;have i_:=C.box.c1;(have ⟨q0,q1,q2,y0,y1,y2⟩:=Q.bJ);(have ⟨r0,r1,r2,z0,z1,z2⟩:=R.bJ)) | (go_at_call 28;with_reducible refine Id (PN.out _) ?_))
  exact D_ results66 ⟨rfl,JW B⟩
 | true=>
 simp only [h0,h1,Bool.and_self] at PT PN ⊢;rw [if_pos trivial];obtain ⟨hg,hp⟩:=gP h0;obtain ⟨n1,n2⟩:=bT.1 h1;replace PT:=IU PT;replace PN:=IU PN;clear h0 h1;obtain ⟨-,-,-,-,Mu,Nf⟩:=eP (aY hg) hp
 obtain ⟨k,hk⟩:∃ k:Nat,k=n.natAbs:=⟨_,rfl⟩
 obtain ⟨Z,hZ⟩:∃ Z,Z=M.Mg n Y:=⟨_,rfl⟩
 have hpz:aP a b X Z E=true:=by
  rw [hZ];unfold M.Mg
  split
  ·exact dp hp
  exact hp
 have XQ:k<=12:=ω
 have PM:=fun W=>tS a b X Z E k W hg hpz XQ
 have hr:gD a X Y E n=M.JT a X Z E k:=by unfold gD;rw [←hZ,←hk]
 rw [hr]
 have ht0:k=0->M.JT a X Z E k=some (0,0,0):=fun h=>by rw [h];rfl
 generalize M.JT a X Z E k=tk at *;replace PM:=IU PM;replace ht0:=IU ht0
 have PO:=fun W=>j7 X Y E W ω ω
 clear hr hg hp hpz
 by_cases hneg:n<0
 ·have hkn:-n=(k:Int):=ω
  have Td:-Y=Z:=by rw [hZ];unfold M.Mg;exact (if_pos hneg).symm
  rw [Td] at PO
  have hk1:1<=k:=ω
  have hkz:((k:Int) == 0)=false:=by simpa using (show ¬ (k:Int)=0 by omega)
  replace PO:=IU PO;clear hZ Td hk;go_enter func66,ntmps66
  go_upto_region 5 with (first | (go_at_call 47;with_reducible refine p_ (PT.out _) fun w4 hb4=>?_;replace ⟨B,C,Q,R⟩:=Ip hb4 B C Q R;have f_:=C.box.c0;have i_:=C.box.c1;(have ⟨q0,q1,q2,y0,y1,y2⟩:=Q.bJ);(have ⟨r0,r1,r2,z0,z1,z2⟩:=R.bJ)) | (go_at_call 28;with_reducible refine Id (PN.out _) ?_) | (go_at_call 49;with_reducible refine p_ (PO.out _) fun w6 hb6=>?_;replace ⟨B,C,Q,R⟩:=Ip hb6 B C Q R;have f_:=C.box.c0;have i_:=C.box.c1;(have ⟨q0,q1,q2,y0,y1,y2⟩:=Q.bJ);(have ⟨r0,r1,r2,z0,z1,z2⟩:=R.bJ)))
  replace B:Below w w _:=IW (IW (IW B (p:=⟨w.heap.size+1,0,none⟩) (by dsimp only;omega) (.int .i64 X)) (p:=⟨w.heap.size+1,1,none⟩) (by dsimp only;omega) (.int .i64 Z)) (p:=⟨w.heap.size+1,2,none⟩) (by dsimp only;omega) (.int .i64 E);replace C:=((C.other (k:=w.heap.size+1) (i:=0) ω (.int .i64 X)).other (k:=w.heap.size+1) (i:=1) ω (.int .i64 Z)).other (k:=w.heap.size+1) (i:=2) ω (.int .i64 E);replace R:=((R.other (k:=w.heap.size+1) (i:=0) ω (.int .i64 X)).other (k:=w.heap.size+1) (i:=1) ω (.int .i64 Z)).other (k:=w.heap.size+1) (i:=2) ω (.int .i64 E);replace Q:=Q.ou (.int .i64 X) (.int .i64 Z) (.int .i64 E);clear f_ i_ q0 q1 q2 y0 y1 y2 r0 r1 r2 z0 z1 z2;generalize ((w6.setCell ⟨w.heap.size+1,0,none⟩ (.int .i64 X)).setCell ⟨w.heap.size+1,1,none⟩ (.int .i64 Z)).setCell ⟨w.heap.size+1,2,none⟩ (.int .i64 E)=w8 at *
  try rw [hkn]
  have f_:=C.box.c0;have i_:=C.box.c1;have ⟨q0,q1,q2⟩:=Q.aM
  cases tk with
  | none=>
   go_upto_region 6 with (go_at_call 108;(refine (PM.out _).mono ?_);rintro e w9 ⟨v9,rfl,hM,I2⟩;replace ⟨B,R⟩:=Im I2 B R;(have ⟨r0,r1,r2,z0,z1,z2⟩:=R.bJ))
   obtain ⟨l,hown,-⟩:=hM;obtain ⟨A9,c9,rfl,-,-,-⟩:=hown.seen;go_wp2;exact D_ results66 ⟨rfl,JW B⟩
  | some p=>
  obtain ⟨px,py,pe⟩:=p
  go_upto_region 6 with (go_at_call 108;(refine (PM.out _).mono ?_);rintro e w9 ⟨v9,rfl,hM,I2⟩;replace ⟨B,R⟩:=Im I2 B R;(have ⟨r0,r1,r2,z0,z1,z2⟩:=R.bJ))
  obtain ⟨l,hown,hl⟩:=hM;obtain ⟨hl1,hl2⟩:=hl rfl;have hpv:=hown.seen.Nd;obtain ⟨A9,c9,rfl,hA⟩:=hpv;rw [hl1]
  by_cases hk0:k=0
  ·exact absurd hk0 ω
  have hkb:((k:Int) == 0)=false:=by simpa using (show ¬ (k:Int)=0 by omega)
  have hg:=hl2 ω
  obtain ⟨g,rfl,hpa⟩:∃ g,A9=some ⟨g,0,none⟩/\ew w9 g l:=by
   rcases hA with h | h
   ·rw [h] at hg;simp at hg
   exact h
  obtain ⟨d0,d1,d2⟩:=hpa _ _ hg
  obtain ⟨j,rfl⟩:∃ j,k=j+1:=⟨k - 1,ω⟩
  rw [show j+1 - 1=j from rfl] at d0 d1 d2
  have hje:((j+1:Nat):Int) - 1=(j:Int):=ω
  have hjl:(j:Int)<((j+1:Nat):Int):=ω
  have XO:j<j+1:=ω
  dsimp only at d0 d1 d2
  clear hl2 hA hown hl1 hg hpa;go_wp2;exact D_ results66 ⟨rfl,JW B⟩
 have hkn:n=(k:Int):=ω
 have Td:Z=Y:=by rw [hZ];unfold M.Mg;exact if_neg hneg
 subst Td hkn;clear hZ hk PO;go_enter func66,ntmps66
 go_upto_region 5 with (first | (go_at_call 47;with_reducible refine p_ (PT.out _) fun w4 hb4=>?_;replace ⟨B,C,Q,R⟩:=Ip hb4 B C Q R;have f_:=C.box.c0;have i_:=C.box.c1;(have ⟨q0,q1,q2,y0,y1,y2⟩:=Q.bJ);(have ⟨r0,r1,r2,z0,z1,z2⟩:=R.bJ)) | (go_at_call 28;with_reducible refine Id (PN.out _) ?_))
 clear f_ i_ q0 q1 q2 y0 y1 y2 r0 r1 r2 z0 z1 z2;have f_:=C.box.c0;have i_:=C.box.c1;have ⟨q0,q1,q2⟩:=Q.aM
 cases tk with
 | none=>
  go_upto_region 6 with (go_at_call 108;(refine (PM.out _).mono ?_);rintro e w9 ⟨v9,rfl,hM,I2⟩;replace ⟨B,R⟩:=Im I2 B R;(have ⟨r0,r1,r2,z0,z1,z2⟩:=R.bJ))
  obtain ⟨l,hown,-⟩:=hM;obtain ⟨A9,c9,rfl,-,-,-⟩:=hown.seen;go_wp2;exact D_ results66 ⟨rfl,JW B⟩
 | some p=>
 obtain ⟨px,py,pe⟩:=p
 go_upto_region 6 with (go_at_call 108;(refine (PM.out _).mono ?_);rintro e w9 ⟨v9,rfl,hM,I2⟩;replace ⟨B,R⟩:=Im I2 B R;(have ⟨r0,r1,r2,z0,z1,z2⟩:=R.bJ))
 obtain ⟨l,hown,hl⟩:=hM;obtain ⟨hl1,hl2⟩:=hl rfl;have hpv:=hown.seen.Nd;obtain ⟨A9,c9,rfl,hA⟩:=hpv;rw [hl1]
 by_cases hk0:k=0
 ·have hp0:=ht0.out hk0
  cases hp0
  have hkb:((k:Int) == 0)=true:=by simpa using (show (k:Int)=0 by omega)
  clear hl2 hA hown hl1;go_wp2;exact D_ results66 ⟨rfl,JW B⟩
 have hkb:((k:Int) == 0)=false:=by simpa using (show ¬ (k:Int)=0 by omega)
 have hg:=hl2 ω
 obtain ⟨g,rfl,hpa⟩:∃ g,A9=some ⟨g,0,none⟩/\ew w9 g l:=by
  rcases hA with h | h
  ·rw [h] at hg;simp at hg
  exact h
 obtain ⟨d0,d1,d2⟩:=hpa _ _ hg
 obtain ⟨j,rfl⟩:∃ j,k=j+1:=⟨k - 1,ω⟩
 rw [show j+1 - 1=j from rfl] at d0 d1 d2
 have hje:((j+1:Nat):Int) - 1=(j:Int):=ω
 have hjl:(j:Int)<((j+1:Nat):Int):=ω
 have XO:j<j+1:=ω
 dsimp only at d0 d1 d2
 clear hl2 hA hown hl1 hg hpa;go_wp2;exact D_ results66 ⟨rfl,JW B⟩
end
section
open Go.ChangeShapes Go.WideShapes Go.ChangeAt Go.RowKit Go.Joins Go.Deep open M
theorem own:ownKnob prog.godebug=none:=κ
theorem laidOut:laidOutB prog=true:=κ
section
variable {H:Type} {enc:TypeId × Value->H} {P:Program} {w:World} {base:Nat} {spare:Nat->Bool} {held:Bool}
theorem jl (hl:laidOutB P=true):∀ (ts:List TypeId) (hts:∀ t ∈ ts,P.readableRec t=true/\t<P.types.size) {W W':World} {vs:List Value} {ds:List (DataW H)} {ps:List MemPlace}
  (_:DataW.TrodAll enc P W 0 (fun _=>true) true ts vs ds ps) (_:Below W W W') (_:∀ x ∈ ps,x.block<W.heap.size),DataW.TrodAll enc P W' 0 (fun b=>decide (b<W.heap.size)) true ts vs ds ps
 | [],_,_,_,_,_,_,h,_,_=>by
  obtain ⟨rfl,rfl,rfl⟩:=trodAll_nil h;exact trodAll_mk0
 | t :: ts,hts,_,_,_,_,_,h,hb,hlt=>by
  obtain ⟨v,vs',d,ds',p,q,rfl,rfl,rfl,h1,h2⟩:=trodAll_cons h;refine ⟨p,q,Below.trod hl (hts t List.mem_cons_self).1 (hts t List.mem_cons_self).2 h1 hb fun x hx=>hlt x (List.mem_append_left _ hx),?_,rfl⟩
  exact jl hl ts (fun t' ht'=>hts t' (List.mem_cons_of_mem _ ht')) h2 hb fun x hx=>hlt x (List.mem_append_right _ hx)
theorem law_post {f:Func} {s:ChangeSpec} {W W':World} {args:Array Value} {ds:List (DataW H)} {before:List MemPlace} {tb:TypeId}
  (hl:laidOutB P=true) (hts:∀ t ∈ f.params.toList,P.readableRec t=true/\t<P.types.size)
  (hvars:s.vars=[]) (hf:s.fn H ds={ results:=[.lit (.bool true)],args:=ds }) (hrt:f.resultTypes=#[tb]) (SH:P.underlying tb=some .bool)
  (hW:DataW.Whole enc P f.params.toList s.vars false W args.toList ds [] before) (hb:Below W W W') :
  s.post enc P f false true false false W args (.bool true) W':=by
 have hlt:∀ p ∈ before,p.block<W.heap.size:=fun p hp=>hW.lt p hp
 obtain ⟨p,q,hA,hV,hpq,hz,hn⟩:=id hW;rw [hvars] at hV;obtain ⟨_,rfl⟩:=trodVars_none hV
 have hbp:before=p:=by simpa using hpq
 subst hbp
 have e1:s.fn H (ds ++ [])={ results:=[.lit (.bool true)],args:=ds }:=by rw [List.append_nil];exact hf
 refine ⟨ds,[],before,[],before,[],hW,?_,?_,?_,World.keptBut_mono (fun x hx=>⟨hx,Or.inr (Or.inl hx)⟩) (hb.frame (· ∈ before)),fun h=>by cases h⟩
 ·rw [e1,hrt]
  exact trodAll_mk1 (shut_bool SH true)
 ·rw [e1]
  exact jl hl _ hts hA hb hlt
 rw [e1,hvars];exact rfl
end
end
section
open Go.RowKit Go.Shelf open Gr M Rg Rw Wh
def MK:Rw.Enc (Int × Int × Int) where
 t:=40
 k:=3
 cells:=fun q=>[.int .i64 q.1,.int .i64 q.2.1,.int .i64 q.2.2]
 len:=fun _=>rfl
 one:=fun x u hu=>by simp only [List.mem_cons,List.not_mem_nil,or_false] at hu;rcases hu with rfl | rfl | rfl <;> rfl
 pos:=δ
theorem Rw.Seen.pts {w:World} {hi:Nat} {v:Value} {l:List Pt} (h:Rw.Seen MK w hi v l):dj w v l:=eD.v <| by
 obtain ⟨a,cap,rfl,h1,h2,h3⟩:=h;refine ⟨a,cap,rfl,?_⟩
 cases l with
 | nil=>exact Or.inl rfl
 | cons p l=>
 obtain ⟨g,x,e,-⟩:=h3 0 σ;refine Or.inr ⟨g,e,fun i y hy=>?_⟩;obtain ⟨g2,x2,e2,-,hx2,hc⟩:=h3 i (List.getElem?_eq_some_iff.1 hy).1;rw [e] at e2
 injection e2 with e2
 injection e2 with e2
 subst e2;rw [hy] at hx2;obtain rfl:=Option.some.inj hx2.out;exact ⟨hc 0 _ rfl,hc 1 _ rfl,hc 2 _ rfl⟩
def mw (w:World) (v:Value) (xs:List Pt):Prop:=
 ∃ (A:Option Addr) (cap:Nat),v=.slice A xs.length cap/\(xs.length:Int)<=9223372036854775807/\
  ∀ k,k<xs.length->∃ g o x,A=some ⟨g,o,none⟩/\g<w.heap.size/\Hid (xs[k]?=some x)/\w.cell? ⟨g,o+k*3,none⟩=some (.int .i64 x.1)/\w.cell? ⟨g,o+k*3+1,none⟩=some (.int .i64 x.2.1)/\w.cell? ⟨g,o+k*3+2,none⟩=some (.int .i64 x.2.2)
theorem mw.keep {w w':World} {v:Value} {xs:List Pt} (h:mw w v xs) (hb:Below w w w'):mw w' v xs:=by
 obtain ⟨A,cap,rfl,hm,hv⟩:=h;refine ⟨A,cap,rfl,hm,fun k hk=>?_⟩;obtain ⟨g,o,x,hA,hg,hx,h0,h1,h2⟩:=hv k hk;exact ⟨g,o,x,hA,Nat.lt_of_lt_of_le hg hb.size,hx,aE hb h0,aE hb h1,aE hb h2⟩
end
section
open Go.ChangeShapes Go.WideShapes Go.ChangeAt Go.RowKit Go.Joins Go.Deep open Gr M Rg Rw Wh
def bs (w:World) (v:Value) (xs:List Int):Prop:=
 ∃ (A:Option Addr) (cap:Nat),v=.slice A xs.length cap/\(xs.length:Int)<=9223372036854775807/\
  ∀ k,k<xs.length->∃ g o x,A=some ⟨g,o,none⟩/\g<w.heap.size/\Hid (xs[k]?=some x)/\w.cell? ⟨g,o+k,none⟩=some (.int .i64 x)
theorem bs.keep {w w':World} {v:Value} {xs:List Int} (h:bs w v xs) (hb:Below w w w'):bs w' v xs:=by
 obtain ⟨A,cap,rfl,hm,hv⟩:=h;refine ⟨A,cap,rfl,hm,fun k hk=>?_⟩;obtain ⟨g,o,x,hA,hg,hx,h0⟩:=hv k hk;exact ⟨g,o,x,hA,Nat.lt_of_lt_of_le hg hb.size,hx,aE hb h0⟩
end
section
open Go.RowKit open Gr M Rg Rw Wh
theorem yU (x:Int) (w:World):cB 68 #[x] w (!(x == 0)):=by
 go_enter func68,ntmps68
 go_wp2;go_ret;exact ⟨by first | rfl | simp [bne],IX _ _⟩
namespace M
def nz (n:List Int):Bool:=n.any fun x=>!(x == 0)
end M
theorem xi {p:Int->Bool} {xs:List Int} {k:Nat} {x:Int} (hx:xs[k]?=some x) (h:(xs.take k).any p=false) (h':p x=false):(xs.take (k+1)).any p=false:=by
 rw [List.take_add_one,hx,List.any_append,h]
 simpa using h'
theorem ei.ints {w:World} {hi:Nat} {v:Value} {xs:List Int} (h:ei w hi v xs) (hh:hi<=w.heap.size):bs w v xs:=by
 obtain ⟨a,cap,h1,h2,h3⟩:=h;refine ⟨a,cap,h1,h2,fun k hk=>?_⟩;obtain ⟨g,x,e1,e2,e3,e4⟩:=h3 k hk;exact ⟨g,0,x,e1,ω,e3,by rw [Nat.zero_add];exact e4⟩
theorem bs.at {w:World} {m c k:Nat} {a:Option Addr} {n:List Int} {x:Int} (h:bs w (.slice a m c) n) (hk:n[k]?=some x):∃ g o,a=some ⟨g,o,none⟩/\w.cell? ⟨g,o+k,none⟩=some (.int .i64 x):=by
 obtain ⟨a2,c2,e,-,h⟩:=h;cases e
 obtain ⟨g,o,y,rfl,-,hy,hc⟩:=h k (List.getElem?_eq_some_iff.1 hk).1;rw [hk] at hy;obtain rfl:=Option.some.inj hy.out;exact ⟨g,o,rfl,hc⟩
theorem BH (g:Nat) (eg:∀ args w,(callFunc g args).run prog w=.ok (.enter g args) w) (p:Int->Bool) (v:Value) (xs:List Int) (w:World) (hx:bs w v xs) (hp:∀ (x:Int) (W:World),Calls prog g #[x] W fun e W'=>e=.returned (.bool (p x))/\Below W W W') :
  Calls prog 109 #[v,.func (.func g) #[] #[]] w fun e w'=>∃ r:Int,e=.returned (.int .i64 r)/\decide (0<=r)=xs.any p/\Below w w w':=by
 obtain ⟨a,cap,rfl,hm,hv⟩:=hx;have hv:=IU hv;have hp:=IU hp
 obtain ⟨N,hN⟩:∃ N,Hid (xs.length=N):=⟨_,IU rfl⟩
 rw [hN.out] at hm hv ⊢;go_enter func109,ntmps109
 go_wp2
 go_loopw [5,8] (fun _ vi wr=>∃ k:Nat,k<=N/\vi=.int .i64 k/\Hid ((xs.take k).any p=false)/\Below w w wr) (fun _ vi _=>N - (intOf vi).toNat)
 case atStart=>exact ⟨0,ω,rfl,IU rfl,IX _ _⟩
 case round=>
 obtain ⟨k,hk,rfl,hall,hbr⟩:=hrel
 by_cases hlt:k<N
 ·obtain ⟨b,o_,x,rfl,hg,hx,hcell⟩:=hv.out k hlt
  have d0:=aE hbr hcell;have hcall:=hp.out x wr
  have hnx:=fun h=>xi hx.out hall.out h
  have hf:=fun (h:p x=true)=>(List.any_eq_true.2 ⟨x,List.mem_of_getElem? hx.out,h⟩:xs.any p=true)
  clear hcell
  cases hq:p x
  ·rw [hq] at hcall
   replace hcall:=IU hcall;replace hnx:=IU (hnx hq);clear hf hq
   go_wp2_with (go_at_fn g;refine (hcall.out).mono ?_;rintro e w2 ⟨rfl,hb2⟩)
   go_roundw
   case rel=>exact ⟨k+1,ω,ν,hnx,bE hbr hb2⟩
   case measure=>simp [intOf];omega
  rw [hq] at hcall;replace hcall:=IU hcall;replace hf:=IU (hf hq);clear hnx hq
  go_wp2_with (go_at_fn g;refine (hcall.out).mono ?_;rintro e w2 ⟨rfl,hb2⟩)
  go_ret;exact ⟨_,rfl,by rw [hf.out];exact decide_eq_true ω,bE hbr hb2⟩
 obtain rfl:k=N:=ω
 have Jn:=hall;rw [←hN.out,List.take_length] at Jn;go_wp2;go_ret;exact ⟨_,rfl,by rw [Jn.out];rfl,hbr⟩
theorem lr (g:Nat) (eg:∀ args w,(callFunc g args).run prog w=.ok (.enter g args) w) (p:Int->Bool) (v:Value) (xs:List Int) (w:World) (hx:bs w v xs) (hp:∀ (x:Int) (W:World),Calls prog g #[x] W fun e W'=>e=.returned (.bool (p x))/\Below W W W') :
  cB 67 #[v,.func (.func g) #[] #[]] w (xs.any p):=by
 have P:=IU (BH g eg p v xs w hx hp);generalize xs.any p=t at *;clear hx hp;go_enter func67,ntmps67
 go_wp2_with (go_at_call 109;refine P.out.mono ?_;rintro e w2 ⟨r,rfl,h1,hb2⟩)
 go_ret;exact ⟨by rw [←h1];simp,hb2⟩
theorem tL (v:Value) (n:List Int) (w:World) (hx:bs w v n) :
  cB 32 #[v] w (!M.nz n):=by
 have PF:=IU (lr 68 (fun _ _=>rfl) (fun x=>!(x == 0)) v n w hx (fun x W=>yU x W));unfold M.nz;generalize n.any (fun x=>!(x == 0))=t at *;go_enter func32,ntmps32
 go_wp2_with (go_at_call 67;(refine PF.out.mono ?_);rintro e w4 ⟨rfl,hb4⟩)
 go_ret;exact ⟨rfl,hb4⟩
theorem pH (a:Option Addr) (m cap:Nat) (v:Value) (n:List Int) (w:World) (hx:bs w v n) :
  cB 37 #[.slice a m cap,v] w (M.fits n m):=by
 have PF:=lr 71 (fun _ _=>rfl) (fun x=>!(M.ins x (-12) 12)) v n w hx (fun x W=>sP x W)
 have hfit:M.fits n m=(((n.length:Int) == (m:Int)) && !n.any (fun x=>!(M.ins x (-12) 12))):=by rw [As];rfl
 obtain ⟨sa,cp,rfl,-,-⟩:=hx;replace PF:=IU PF;rw [hfit];generalize n.any (fun x=>!(M.ins x (-12) 12))=t at *;clear hfit;generalize n.length=N at *
 cases hc:((N:Int) == (m:Int))
 all_goals
  go_enter func37,ntmps37
  go_wp2_with (go_at_call 67;(refine PF.out.mono ?_);rintro e w4 ⟨rfl,hb4⟩)
  go_ret
  first | exact ⟨rfl,hb4⟩ | exact ⟨rfl,IX _ _⟩
end
section
open Gr M Rg Rw Wh
namespace M
noncomputable def DF (a b:Int) (s:Option Ib) (p:Option Pt) (k:Option Int):Option Ib:=
 s.bind fun s=>p.bind fun p=>k.bind fun k=>(J1 a b p.1 p.2.1 p.2.2 k).bind fun q=>
  if bB a s.1 s.2.1 s.2.2 q.1 q.2.1 q.2.2=true then some (cK a s.1 s.2.1 s.2.2 q.1 q.2.1 q.2.2,dC a s.1 s.2.1 s.2.2 q.1 q.2.1 q.2.2,cJ a s.1 s.2.1 s.2.2 q.1 q.2.1 q.2.2) else none
noncomputable def cW (a b:Int) (l:List Pt) (n:List Int):Nat->Option Ib
 | 0=>some (0,0,0)
 | j+1=>DF a b (cW a b l n j) l[j]? n[j]?
noncomputable def fK (a b:Int) (l:List Pt) (n:List Int):Option Ib:=if (bP a b l && fits n l.length)=true then cW a b l n l.length else none
noncomputable def Jw (a b:Int) (l:List Pt) (n:List Int):Bool:=(fK a b l n).any fun s=>nz n && dD a s
theorem Ed {a b X Y E n:Int} {q:Ib} (hg:good a b=true) (hp:aP a b X Y E=true) (h:gD a X Y E n=some q):aP a b q.1 q.2.1 q.2.2=true:=by
 unfold gD Mg at h
 split at h
 ·exact gS hg (dp hp) _ q h
 exact gS hg hp _ q h
theorem vC {a b X Y E n:Int} {q:Ib} (h:J1 a b X Y E n=some q):aP a b q.1 q.2.1 q.2.2=true:=by
 unfold J1 at h
 split at h
 ·rename_i hc
  rw [Bool.and_eq_true] at hc;obtain ⟨hg,hp⟩:=gP hc.1;exact Ed hg hp h
 cases h
theorem xp {a b:Int} {l:List Pt} {n:List Int} {j:Nat} {s:Ib} {p:Pt} {k:Int} (hs:cW a b l n j=some s) (hp:l[j]?=some p) (hk:n[j]?=some k):cW a b l n (j+1)=(J1 a b p.1 p.2.1 p.2.2 k).bind fun q=>
  if bB a s.1 s.2.1 s.2.2 q.1 q.2.1 q.2.2=true then some (cK a s.1 s.2.1 s.2.2 q.1 q.2.1 q.2.2,dC a s.1 s.2.1 s.2.2 q.1 q.2.1 q.2.2,cJ a s.1 s.2.1 s.2.2 q.1 q.2.1 q.2.2) else none:=by
 conv=>lhs;unfold cW
 rw [hs,hp,hk];rfl
theorem ky {a b:Int} {l:List Pt} {n:List Int} {j:Nat} (h:cW a b l n j=none):∀ k,j<=k->cW a b l n k=none
 | 0,hk=>by
  obtain rfl:j=0:=ω
  exact h
 | k+1,hk=>by
  by_cases e:j=k+1
  ·rw [←e];exact h
  conv=>lhs;unfold cW
  rw [ky h k ω];rfl
theorem jM {a b:Int} {l:List Pt} {n:List Int} (hg:good a b=true):∀ j s,cW a b l n j=some s->aP a b s.1 s.2.1 s.2.2=true
 | 0,s,h=>by
  cases h
  exact fY a b
 | j+1,s,h=>by
  unfold cW DF at h;obtain ⟨s0,h0,h⟩:=Option.bind_eq_some_iff.1 h;obtain ⟨p,hp,h⟩:=Option.bind_eq_some_iff.1 h;obtain ⟨k,hk,h⟩:=Option.bind_eq_some_iff.1 h;obtain ⟨q,hq,h⟩:=Option.bind_eq_some_iff.1 h
  split at h
  ·cases h
   exact ie (aY hg) (jM hg j s0 h0) (vC hq)
  cases h
end M
end
section
open Go.RowKit open Gr M Rg Rw Wh
namespace M
theorem cZ {a b:Int} {l:List Pt} (h:bP a b l=true):good a b=true/\1<=l.length/\l.length<=4/\∀ p ∈ l,aP a b p.1 p.2.1 p.2.2=true:=by
 unfold bP at h;rw [Bool.and_eq_true,Bool.and_eq_true] at h;obtain ⟨⟨h1,h2⟩,h3⟩:=h;unfold ins at h2;simp only [Bool.and_eq_true,decide_eq_true_eq] at h2;exact ⟨h1,ω,ω,List.all_eq_true.1 h3⟩
theorem GX {x:Int} (h1:-409600000<=x) (h2:x<=409600000):decide (pn x > 0)=decide (x > 0):=by
 obtain ⟨-,-,-,-,h3,h4,-,-,-⟩:=uh (bI h1 h2)
 have:pn x > 0 ↔ x > 0:=by
  generalize pn x=n,4096 / pd x=t at *;subst h3
  constructor
  ·intro h;exact Int.mul_pos h ω
  intro h
  rcases Int.lt_or_le 0 n with q | q
  ·exact q
  have:=Int.mul_nonpos_of_nonpos_of_nonneg q (show 0<=t by omega);omega
 simp only [this]
theorem Da {s:Sp} (h:Jo s):decide (I9 s > 0)=decide (Iy s > 0):=by
 cases s with
 | none=>rfl
 | some p=>
 obtain ⟨-,h1,h2⟩:=jA h;have h3:=(jA h).1;exact GX h1 (Int.le_trans h3 h2)
theorem Dx {a b:Int} {l:List Pt}:Jo (gR a b l):=by
 cases h:J3 a b l
 ·rw [mb h];exact fF
 rw [kX h];exact mY (oc h) _
noncomputable def jb (a b:Int) (l:List Pt):Sp:=if bP a b l=true then gR a b l else none
theorem mc {a b:Int} {l:List Pt} (h:bP a b l=false):jb a b l=none:=by unfold jb;rw [h];rfl
theorem kY {a b:Int} {l:List Pt} (h:bP a b l=true):jb a b l=gR a b l:=by unfold jb;rw [h];rfl
theorem tV {a b:Int} {l:List Pt}:Jo (jb a b l):=by
 cases h:bP a b l
 ·rw [mc h];exact fF
 rw [kY h];exact Dx
noncomputable def q7 (a b:Int) (l:List Pt):Bool:=(jb a b l).isSome && decide (Iy (jb a b l) > 0)
end M
theorem iv (a b:Int) (v:Value) (l:List Pt) (w:World) (hx:dj w v l) (hn:l.length<=4000000) :
  cB 11 #[.agg #[a,b],v] w (.tuple #[q7 a b l,.bool (jb a b l).isSome]):=by
 have PL:=fun W h=>jF a b v l W h hn
 have PR:=fun (hp:bP a b l=true) W h=>(tp) a b v l W h (cZ hp).1 (cZ hp).2.1 (cZ hp).2.2.1 (cZ hp).2.2.2
 have hyes:=fun h=>kY (a:=a) (b:=b) (l:=l) h
 have hno:=fun h=>mc (a:=a) (b:=b) (l:=l) h
 have hok:=tV (a:=a) (b:=b) (l:=l);have NA:q7 a b l=((jb a b l).isSome && decide (M.Iy (jb a b l) > 0)):=rfl;rw [NA];clear NA;generalize jb a b l=rv at *;replace hx:=IU hx;obtain ⟨wc,hw3,C,B⟩:=cf w #[a,b] 25;have hxc:=IU (hx.out.below B);have f_:=C.box.c0;have i_:=C.box.c1
 cases hp:bP a b l with
 | false=>
  rw [hp] at PL;have hfin:=IU (hno hp);replace PL:=IU PL;clear PR hyes hno hp hok;rw [hfin.out];go_enter func11,ntmps11
  go_wp2_with (go_at_call 27;with_reducible refine p_ (PL.out _ hxc.out) fun w4 hb4=>?_;replace ⟨B,C⟩:=Im hb4 B C;replace hxc:=IU (hxc.out.below hb4);have f_:=C.box.c0;have i_:=C.box.c1)
  go_ret2;exact ⟨rfl,B⟩
 | true=>
 rw [hp] at PL;replace PR:=PR hp;rw [←hyes hp] at PR;replace PL:=IU PL;clear hyes hno hp;clear hok;generalize M.I3 rv=hi,M.Iy rv=lo,rv.isSome=f at *;replace PR:=IU PR
 cases f with
 | false=>
  go_enter func11,ntmps11
  go_wp2_with first | (go_at_call 27;with_reducible refine p_ (PL.out _ hxc.out) fun w4 hb4=>?_;replace ⟨B,C⟩:=Im hb4 B C;replace hxc:=IU (hxc.out.below hb4);have f_:=C.box.c0;have i_:=C.box.c1) | (go_at_call 38;with_reducible refine p_ (PR.out _ hxc.out) fun w5 hb5=>?_;replace B:=(j_ B hb5).alloc (Nat.le_trans B.size hb5.size) (.cells #[lo,hi] 74);have V:=aG.new w5 #[lo,hi] 74;(have ⟨v0,v1,_,_,_⟩:=V.box))
  go_ret2;exact ⟨rfl,B⟩
 | true=>
 by_cases hpos:lo > 0
 ·have hd:decide (lo > 0)=true:=decide_eq_true hpos
  rw [hd];go_enter func11,ntmps11
  go_wp2_with first | (go_at_call 27;with_reducible refine p_ (PL.out _ hxc.out) fun w4 hb4=>?_;replace ⟨B,C⟩:=Im hb4 B C;replace hxc:=IU (hxc.out.below hb4);have f_:=C.box.c0;have i_:=C.box.c1) | (go_at_call 38;with_reducible refine p_ (PR.out _ hxc.out) fun w5 hb5=>?_;replace B:=(j_ B hb5).alloc (Nat.le_trans B.size hb5.size) (.cells #[lo,hi] 74);have V:=aG.new w5 #[lo,hi] 74;(have ⟨v0,v1,_,_,_⟩:=V.box))
  go_ret2;exact ⟨by first | rfl | simp [hd],B⟩
 have hd:decide (lo > 0)=false:=decide_eq_false hpos;rw [hd];go_enter func11,ntmps11
 go_wp2_with first | (go_at_call 27;with_reducible refine p_ (PL.out _ hxc.out) fun w4 hb4=>?_;replace ⟨B,C⟩:=Im hb4 B C;replace hxc:=IU (hxc.out.below hb4);have f_:=C.box.c0;have i_:=C.box.c1) | (go_at_call 38;with_reducible refine p_ (PR.out _ hxc.out) fun w5 hb5=>?_;replace B:=(j_ B hb5).alloc (Nat.le_trans B.size hb5.size) (.cells #[lo,hi] 74);have V:=aG.new w5 #[lo,hi] 74;(have ⟨v0,v1,_,_,_⟩:=V.box))
 go_ret2;exact ⟨by first | rfl | simp [hd],B⟩
theorem jH (a b:Int) (v:Value) (l:List Pt) (w:World) (hx:dj w v l) (hn:l.length<=4000000) :
  cB 12 #[.agg #[a,b],v] w (.tuple #[q7 a b l,.bool (jb a b l).isSome]):=by
 have PL:=fun W h=>ny a b v l W h hn
 have PR:=fun (hp:bP a b l=true) W h=>(pI) a b v l W h (cZ hp).1 (cZ hp).2.1 (cZ hp).2.2.1 (cZ hp).2.2.2
 have hyes:=fun h=>kY (a:=a) (b:=b) (l:=l) h
 have hno:=fun h=>mc (a:=a) (b:=b) (l:=l) h
 have hok:=tV (a:=a) (b:=b) (l:=l);have NA:q7 a b l=((jb a b l).isSome && decide (M.Iy (jb a b l) > 0)):=rfl;rw [NA];clear NA;generalize jb a b l=rv at *;replace hx:=IU hx;obtain ⟨wc,hw3,C,B⟩:=cf w #[a,b] 25;have hxc:=IU (hx.out.below B);have f_:=C.box.c0;have i_:=C.box.c1
 cases hp:bP a b l with
 | false=>
  rw [hp] at PL;have hfin:=IU (hno hp);replace PL:=IU PL;clear PR hyes hno hp hok;rw [hfin.out];go_enter func12,ntmps12
  go_wp2_with (go_at_call 39;with_reducible refine p_ (PL.out _ hxc.out) fun w4 hb4=>?_;replace ⟨B,C⟩:=Im hb4 B C;replace hxc:=IU (hxc.out.below hb4);have f_:=C.box.c0;have i_:=C.box.c1)
  go_ret2;exact ⟨rfl,B⟩
 | true=>
 rw [hp] at PL;replace PR:=PR hp;rw [←hyes hp] at PR;replace PL:=IU PL;clear hyes hno hp;rw [←Da hok];clear hok;generalize rv.isSome=f,M.JB rv=i4,M.JA rv=i3,M.I_ rv=i2,M.I9 rv=i1 at *;replace PR:=IU PR
 cases f with
 | false=>
  go_enter func12,ntmps12
  go_wp2_with first | (go_at_call 39;with_reducible refine p_ (PL.out _ hxc.out) fun w4 hb4=>?_;replace ⟨B,C⟩:=Im hb4 B C;replace hxc:=IU (hxc.out.below hb4);have f_:=C.box.c0;have i_:=C.box.c1) | (go_at_call 40;with_reducible refine p_ (PR.out _ hxc.out) fun w5 hb5=>?_;replace B:=(j_ B hb5).alloc (Nat.le_trans B.size hb5.size) (.cells #[i1,i2,i3,i4] 78);have V:=aG.new w5 #[i1,i2,i3,i4] 78;(have ⟨v0,v1,v2,v3,_,_,_,_,_⟩:=V.aK))
  go_ret2;exact ⟨rfl,B⟩
 | true=>
 by_cases hpos:i1 > 0
 ·have hd:decide (i1 > 0)=true:=decide_eq_true hpos
  rw [hd];go_enter func12,ntmps12
  go_wp2_with first | (go_at_call 39;with_reducible refine p_ (PL.out _ hxc.out) fun w4 hb4=>?_;replace ⟨B,C⟩:=Im hb4 B C;replace hxc:=IU (hxc.out.below hb4);have f_:=C.box.c0;have i_:=C.box.c1) | (go_at_call 40;with_reducible refine p_ (PR.out _ hxc.out) fun w5 hb5=>?_;replace B:=(j_ B hb5).alloc (Nat.le_trans B.size hb5.size) (.cells #[i1,i2,i3,i4] 78);have V:=aG.new w5 #[i1,i2,i3,i4] 78;(have ⟨v0,v1,v2,v3,_,_,_,_,_⟩:=V.aK))
  go_ret2;exact ⟨by first | rfl | simp [hd],B⟩
 have hd:decide (i1 > 0)=false:=decide_eq_false hpos;rw [hd];go_enter func12,ntmps12
 go_wp2_with first | (go_at_call 39;with_reducible refine p_ (PL.out _ hxc.out) fun w4 hb4=>?_;replace ⟨B,C⟩:=Im hb4 B C;replace hxc:=IU (hxc.out.below hb4);have f_:=C.box.c0;have i_:=C.box.c1) | (go_at_call 40;with_reducible refine p_ (PR.out _ hxc.out) fun w5 hb5=>?_;replace B:=(j_ B hb5).alloc (Nat.le_trans B.size hb5.size) (.cells #[i1,i2,i3,i4] 78);have V:=aG.new w5 #[i1,i2,i3,i4] 78;(have ⟨v0,v1,v2,v3,_,_,_,_,_⟩:=V.aK))
 go_ret2;exact ⟨by first | rfl | simp [hd],B⟩
end
section
open Go.RowKit Go.Shelf open Gr M Rg Rw Wh
theorem aG.GB {α:Type} {E:Rw.Enc α} {w w':World} {g base:Nat} {T:TypeId} {xs:Array Value} {v:Value} {ps:List α} (hv:aG w g T xs) (ho:Rw.Own E w base v ps) (hg:w.grownBy w' v.ownBlock) (hT:T≠E.t):aG w' g T xs:=by
 refine (hg.block g hv.lt fun e=>?_).trans hv
 rcases ho.2 with ⟨rfl,-⟩ | ⟨g',cap,cur,rfl,-,hh,-⟩
 ·simp [Value.ownBlock] at e
 simp only [Value.ownBlock,Option.some.injEq] at e;subst e;unfold aG at hv;rw [hv] at hh
 injection hh with hh
 injection hh with _ h2
 exact hT h2
theorem Rw.From.keep {α:Type} {E:Rw.Enc α} {w w':World} {H:Nat} {ys:List α} (h:Rw.From E w (some ⟨H,0,none⟩) ys) (hH:H<w.heap.size) (hb:Below w w w'):Rw.From E w' (some ⟨H,0,none⟩) ys:=by
 intro j u hu;obtain ⟨ad,h1,h2⟩:=h j u hu;obtain rfl:=Option.some.inj h1
 have hblk:((⟨H,0,none⟩:Addr).add j).block=H:=by unfold Addr.add;split <;> rfl
 exact ⟨_,rfl,(hb.cell (p:=(⟨H,0,none⟩:Addr).add j) (by rw [hblk];exact hH)).trans h2⟩
structure K7 (W0:World) (ps:List Pt) (p:Pt) (T:TypeId) (ret:Value) (zs us:Array Value) (l:Nat->Bool) (v:Nat->Value) (w:World):Prop where
 B:Below W0 W0 w
 c:l 2=true->l 5=false->Rw.Own MK w W0 (v 2) ps
 t:l 4=true->l 5=false->∃ H,v 4=.slice (some ⟨H,0,none⟩) 1 1/\H<w.heap.size/\Rw.From MK w (some ⟨H,0,none⟩) [p]
 a:l 5=true->l 6=false->Rw.Own MK w W0 (v 5) (ps ++ [p])
 r:l 6=true->v 6=ret
 n:l 10=true->l 11=false->∃ H,v 10=.pointer (some ⟨H,0,none⟩)/\W0.heap.size<=H/\aG w H T zs
 s:l 11=true->∃ H,v 10=.pointer (some ⟨H,0,none⟩)/\W0.heap.size<=H/\aG w H T us
namespace K7
variable {W0:World} {ps:List Pt} {p:Pt} {T:TypeId} {ret:Value} {zs us:Array Value} {l l':Nat->Bool} {v v':Nat->Value} {w w':World}
theorem start:K7 W0 ps p T ret zs us (fun _=>false) v { W0 with drawn:=W0.drawn+1 } where
 B:=(IX _ _).drew
 c:=fun h=>by cases h
 t:=fun h=>by cases h
 a:=fun h=>by cases h
 r:=fun h=>by cases h
 n:=fun h=>by cases h
 s:=fun h=>by cases h
theorem congr (h:∀ i ∈ [2,4,5,6,10,11],l i=l' i/\v i=v' i) (j:K7 W0 ps p T ret zs us l v w):K7 W0 ps p T ret zs us l' v' w:=by
 have h1:=h 2 σ;have h2:=h 4 σ;have h3:=h 5 σ;have h4:=h 6 σ;have h5:=h 10 σ;have h6:=h 11 σ;obtain ⟨jB,jc,jt,ja,jr,jn,js⟩:=j;rw [h1.1,h1.2,h3.1] at jc;rw [h2.1,h2.2,h3.1] at jt;rw [h3.1,h3.2,h4.1] at ja;rw [h4.1,h4.2] at jr;rw [h5.1,h5.2,h6.1] at jn;rw [h6.1,h5.2] at js;exact ⟨jB,jc,jt,ja,jr,jn,js⟩
theorem keep (j:K7 W0 ps p T ret zs us l v w) (hb:Below w w w'):K7 W0 ps p T ret zs us l v w' where
 B:=j.B.trans (hb.mono j.B.size)
 c:=fun h1 h2=>(j.c h1 h2).below hb
 t:=fun h1 h2=>by
  obtain ⟨H,e,hH,hf⟩:=j.t h1 h2;exact ⟨H,e,Nat.lt_of_lt_of_le hH hb.size,hf.keep hH hb⟩
 a:=fun h1 h2=>(j.a h1 h2).below hb
 r:=j.r
 n:=fun h1 h2=>by
  obtain ⟨H,e,hH,hf⟩:=j.n h1 h2;exact ⟨H,e,hH,hf.keep hb⟩
 s:=fun h1=>by
  obtain ⟨H,e,hH,hf⟩:=j.s h1;exact ⟨H,e,hH,hf.keep hb⟩
theorem lit (j:K7 W0 ps p T ret zs us l v w):K7 W0 ps p T ret zs us (Rg.upd l 4) (cr v 4 (.slice (some ⟨w,0,none⟩) 1 1)) (w.alloc (.cells #[p.1,p.2.1,p.2.2] 40)) where
 B:=(j.keep (bA w _)).B
 c:=(j.keep (bA w _)).c
 t:=fun _ _=>⟨w,rfl,σ,Rw.From.lit MK w p _ rfl⟩
 a:=(j.keep (bA w _)).a
 r:=j.r
 n:=(j.keep (bA w _)).n
 s:=(j.keep (bA w _)).s
theorem var (j:K7 W0 ps p T ret zs us l v w) (h11:l 11=false):K7 W0 ps p T ret zs us (Rg.upd l 10) (cr v 10 (.pointer (some ⟨w,0,none⟩))) (w.alloc (.cells zs T)) where
 B:=(j.keep (bA w _)).B
 c:=(j.keep (bA w _)).c
 t:=(j.keep (bA w _)).t
 a:=(j.keep (bA w _)).a
 r:=j.r
 n:=fun _ _=>⟨w,rfl,j.B.size,aG.new w zs T⟩
 s:=fun h=>by
  have h:l 11=true:=h;rw [h11] at h;cases h
theorem app {u:Value} (j:K7 W0 ps p T ret zs us l v w) (hT:T≠MK.t) (h2:l 2=true) (h5:l 5=false) (h6:l 6=false) (h11:l 11=false) (hg:w.grownBy w' (v 2).ownBlock) (hu:Rw.Own MK w' W0 u (ps ++ [p])):K7 W0 ps p T ret zs us (Rg.upd l 5) (cr v 5 u) w' where
 B:=j.B.grown hg j.B.size (fun k hk=>((j.c h2 h5).lt k hk).1)
 c:=fun _ h=>by cases h
 t:=fun _ h=>by cases h
 a:=fun _ _=>hu
 r:=fun h=>by
  have h:l 6=true:=h;rw [h6] at h;cases h
 n:=fun h1 hs=>by
  obtain ⟨H,e,hH,hf⟩:=j.n h1 hs;exact ⟨H,e,hH,hf.GB (j.c h2 h5) hg hT⟩
 s:=fun h=>by
  have h:l 11=true:=h;rw [h11] at h;cases h
theorem res (j:K7 W0 ps p T ret zs us l v w) (hb:Below w w w'):K7 W0 ps p T ret zs us (Rg.upd l 6) (cr v 6 ret) w' where
 B:=(j.keep hb).B
 c:=(j.keep hb).c
 t:=(j.keep hb).t
 a:=fun _ h=>by cases h
 r:=fun _=>rfl
 n:=(j.keep hb).n
 s:=(j.keep hb).s
theorem put {u:Value} {H:Nat} (j:K7 W0 ps p T ret zs us l v w) (h2:l 2=true) (h4:l 4=true) (h5:l 5=true) (h6:l 6=true) (h10:v 10=.pointer (some ⟨H,0,none⟩)) (hH:W0.heap.size<=H) (hV:aG w' H T us) (hB:Below W0 W0 w'):K7 W0 ps p T ret zs us (Rg.upd l 11) (cr v 11 u) w' where
 B:=hB
 c:=fun _ h=>by
  have h:l 5=false:=h;rw [h5] at h;cases h
 t:=fun _ h=>by
  have h:l 5=false:=h;rw [h5] at h;cases h
 a:=fun _ h=>by
  have h:l 6=false:=h;rw [h6] at h;cases h
 r:=j.r
 n:=fun _ h=>by cases h
 s:=fun _=>⟨H,h10,hH,hV⟩
end K7
structure MW (W0:World) (ps:List Pt) (p:Pt) (l:Nat->Bool) (v:Nat->Value) (w:World):Prop where
 B:Below W0 W0 w
 e:l 0=true->l 2=false->Rw.Own MK w W0 (v 0) []
 c:l 2=true->l 5=false->Rw.Own MK w W0 (v 2) ps
 t:l 4=true->l 5=false->∃ H,v 4=.slice (some ⟨H,0,none⟩) 1 1/\H<w.heap.size/\W0.heap.size<=H/\Rw.From MK w (some ⟨H,0,none⟩) [p]/\(l 0=true->l 2=false->(v 0).ownBlock≠some H)
 a:l 5=true->Rw.Own MK w W0 (v 5) (ps ++ [p])
 m:l 6=true->Rw.Own MK w W0 (v 6) (ps ++ [p])
namespace MW
variable {W0:World} {ps:List Pt} {p:Pt} {l l':Nat->Bool} {v v':Nat->Value} {w w':World}
theorem start:MW W0 ps p (fun _=>false) v { W0 with drawn:=W0.drawn+1 } where
 B:=(IX _ _).drew
 e:=fun h=>by cases h
 c:=fun h=>by cases h
 t:=fun h=>by cases h
 a:=fun h=>by cases h
 m:=fun h=>by cases h
theorem congr (h:∀ i ∈ [0,2,4,5,6],l i=l' i/\v i=v' i) (j:MW W0 ps p l v w):MW W0 ps p l' v' w:=by
 have h1:=h 0 σ;have h2:=h 2 σ;have h3:=h 4 σ;have h4:=h 5 σ;have h5:=h 6 σ;obtain ⟨jB,je,jc,jt,ja,jm⟩:=j;rw [h1.1,h1.2,h2.1] at je;rw [h2.1,h2.2,h4.1] at jc;rw [h3.1,h3.2,h4.1,h1.1,h1.2,h2.1] at jt;rw [h4.1,h4.2] at ja;rw [h5.1,h5.2] at jm;exact ⟨jB,je,jc,jt,ja,jm⟩
theorem keep (j:MW W0 ps p l v w) (hb:Below w w w'):MW W0 ps p l v w' where
 B:=j.B.trans (hb.mono j.B.size)
 e:=fun h1 h2=>(j.e h1 h2).below hb
 c:=fun h1 h2=>(j.c h1 h2).below hb
 t:=fun h1 h2=>by
  obtain ⟨H,e,hH,h0,hf,hn⟩:=j.t h1 h2;exact ⟨H,e,Nat.lt_of_lt_of_le hH hb.size,h0,hf.keep hH hb,hn⟩
 a:=fun h1=>(j.a h1).below hb
 m:=fun h1=>(j.m h1).below hb
theorem lit (j:MW W0 ps p l v w):MW W0 ps p (Rg.upd l 4) (cr v 4 (.slice (some ⟨w,0,none⟩) 1 1)) (w.alloc (.cells #[p.1,p.2.1,p.2.2] 40)) where
 B:=(j.keep (bA w _)).B
 e:=(j.keep (bA w _)).e
 c:=(j.keep (bA w _)).c
 t:=fun _ _=>⟨w,rfl,σ,j.B.size,Rw.From.lit MK w p _ rfl,fun h1 h2 q=>by
  have:=((j.e h1 h2).lt _ q).2
  omega⟩
 a:=(j.keep (bA w _)).a
 m:=(j.keep (bA w _)).m
theorem app {u:Value} (j:MW W0 ps p l v w) (h2:l 2=true) (h5:l 5=false) (h6:l 6=false) (hg:w.grownBy w' (v 2).ownBlock) (hu:Rw.Own MK w' W0 u (ps ++ [p])):MW W0 ps p (Rg.upd l 5) (cr v 5 u) w' where
 B:=j.B.grown hg j.B.size (fun k hk=>((j.c h2 h5).lt k hk).1)
 e:=fun h1 h3=>by
  have h3:l 2=false:=h3;rw [h2] at h3;cases h3
 c:=fun _ h=>by cases h
 t:=fun _ h=>by cases h
 a:=fun _=>hu
 m:=fun h=>by
  have h:l 6=true:=h;rw [h6] at h;cases h
theorem take (j:MW W0 ps p l v w) (h5:l 5=true):MW W0 ps p (Rg.upd l 6) (cr v 6 (v 5)) w where
 B:=j.B
 e:=j.e
 c:=j.c
 t:=j.t
 a:=j.a
 m:=fun _=>j.a h5
end MW
theorem OW {w:World} {v:Value} {l:List Pt} (h:dj w v l):∃ sa cap,v=.slice sa l.length cap:=by
 obtain ⟨a,cap,e,-⟩:=h;exact ⟨a,cap,e⟩
theorem oH (a b:Int) (v:Value) (l:List Pt) (w:World) (hx:dj w v l) (hn:l.length<=4000000) :
  cB 34 #[.agg #[a,b],v] w (bP a b l):=by
 obtain ⟨sa,cap,rfl⟩:=OW hx
 have PL:=IU fun W h=>ny a b (.slice sa l.length cap) l W h hn
 obtain ⟨wc,hw3,C,B⟩:=cf w #[a,b] 25;have hxc:=IU (hx.below B);have f_:=C.box.c0;have i_:=C.box.c1;generalize l.length=L,bP a b l=p at *;clear hx;go_enter func34,ntmps34
 go_wp2_with (go_at_call 39;(refine (PL.out _ hxc.out).mono ?_);rintro e w4 ⟨rfl,hb4⟩;replace B:=j_ B hb4)
 go_ret;exact ⟨rfl,B⟩
end
section
open Gr M Rg Rw Wh
namespace M
open r_
theorem Ec {a b X Y E n:Int} {q:Ib} (hg:good a b=true) (hp:aP a b X Y E=true) (h:gD a X Y E n=some q):aP a b q.1 q.2.1 q.2.2=true/\cg q.1 q.2.1 q.2.2=uP a n (cg X Y E):=by
 unfold gD Mg at h;unfold uP
 split at h
 ·rename_i hn
  have hm:=dp hp;rw [if_pos hn,←kW];exact ⟨gS hg hm _ q h,mf hg hm _ q h⟩
 rename_i hn
 rw [if_neg hn];exact ⟨gS hg hp _ q h,mf hg hp _ q h⟩
theorem mP {a b:Int} {l:List Pt} {n:List Int} (hg:good a b=true):∀ j s,cW a b l n j=some s->aP a b s.1 s.2.1 s.2.2=true/\cg s.1 s.2.1 s.2.2=Od a (PL l) (fun i=>n.getD i 0) j
 | 0,s,h=>by
  cases h
  exact ⟨fY a b,rO 0 0⟩
 | j+1,s,h=>by
  unfold cW DF at h;obtain ⟨s0,h0,h⟩:=Option.bind_eq_some_iff.1 h;obtain ⟨p,hp,h⟩:=Option.bind_eq_some_iff.1 h;obtain ⟨k,hk,h⟩:=Option.bind_eq_some_iff.1 h;obtain ⟨q,hq,h⟩:=Option.bind_eq_some_iff.1 h;obtain ⟨i1,i2⟩:=mP hg j s0 h0;unfold J1 at hq
  split at hq
  ·rename_i hc
   rw [Bool.and_eq_true] at hc;obtain ⟨-,hpo⟩:=gP hc.1;obtain ⟨q1,q2⟩:=Ec hg hpo hq
   by_cases ha:bB a s0.1 s0.2.1 s0.2.2 q.1 q.2.1 q.2.2=true
   ·rw [if_pos ha] at h
    obtain rfl:=Option.some.inj h;refine ⟨ie (aY hg) i1 q1,?_⟩
    have e:n.getD j 0=k:=by rw [List.getD_eq_getElem?_getD,hk];rfl
    show _=r_.add a (Od a (PL l) (fun i=>n.getD i 0) j) (uP a (n.getD j 0) (PL l j))
    rw [e,zK hp,←q2,←i2];exact jJ hg i1 q1 ha
   rw [if_neg ha] at h;cases h
  cases hq
theorem Hs {n:List Int} (h:nz n=true):∃ j,j<n.length/\n.getD j 0≠0:=by
 obtain ⟨x,hx,h0⟩:=List.any_eq_true.1 h;obtain ⟨j,hj⟩:=List.getElem?_of_mem hx;refine ⟨j,(List.getElem?_eq_some_iff.1 hj).1,?_⟩;rw [List.getD_eq_getElem?_getD,hj];intro e;have e:x=0:=e;rw [e] at h0;exact absurd h0 δ
theorem Gk {a b:Int} {l:List Pt} {n:List Int} {p:Int × Int} (e:gR a b l=some p) (h:Jw a b l n=true):p.1<=0:=by
 unfold Jw fK at h
 split at h
 ·rename_i hc
  rw [Bool.and_eq_true] at hc;have hl:=hc.1;have hf:=hc.2;unfold fits at hf;rw [Bool.and_eq_true,beq_iff_eq] at hf;obtain ⟨hg,-,-,hall⟩:=jU hl
  cases hs:cW a b l n l.length with
  | none=>rw [hs] at h;cases h
  | some s=>
  rw [hs] at h;have h:(nz n && dD a s)=true:=h;rw [Bool.and_eq_true] at h;obtain ⟨s1,s2⟩:=mP hg _ s hs;obtain ⟨m,m1,-,hm⟩:=xD hg s1 h.2;obtain ⟨j,hj,hv⟩:=Hs h.1;rw [s2] at hm;exact EJ hl e (v:=fun i=>n.getD i 0) (j:=j) ω hv ω hm
 cases h
end M
end
section
open Go.RowKit open Gr M Rg Rw Wh
namespace M
theorem qm {n:List Int} {k:Nat} (h:fits n k=true):n.length=k/\∀ x ∈ n,-12<=x/\x<=12:=by
 unfold fits at h;rw [Bool.and_eq_true,beq_iff_eq] at h;refine ⟨ω,fun x hx=>?_⟩;have:=List.all_eq_true.1 h.2 x hx;unfold ins at this;simp only [Bool.and_eq_true,decide_eq_true_eq] at this;exact this
theorem qk {n:List Int} {k i:Nat} (h:fits n k=true) (hi:i<k):n[i]?=some (n.getD i 0)/\-12<=n.getD i 0/\n.getD i 0<=12:=by
 obtain ⟨h1,h2⟩:=qm h;have e:n[i]?=some (n[i]' ω):=List.getElem?_eq_getElem ω
 have e2:n.getD i 0=n[i]' ω:=by rw [List.getD_eq_getElem?_getD,e];rfl
 rw [e2];exact ⟨e,h2 _ (List.getElem_mem _)⟩
end M
end
end Go.Proofs.YtkalaljcbmkbmaaGreat
