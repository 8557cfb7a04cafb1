/-
  Joined texts: contracts and plain lemmas.
-/
import Derived.Test.YtgfkcoablfjbcaaGreatY1
import Derived.Test.YtgfkcoablfjbcaaGreatY26
import Derived.Test.YtgfkcoablfjbcaaGreatY25
import Derived.Laws.IdiomCopy
import Derived.Shelf.Abstract
set_option linter.unusedSimpArgs false
set_option linter.unusedVariables false
set_option maxRecDepth 100000
set_option maxHeartbeats 8000000
namespace Go.Proofs.YtgfkcoablfjbcaaGreat
section
open Go.RowKit
namespace M
noncomputable def ivM (m:Mat):IvM:=m.map fun r=>r.map fun q=>ivc (some q)
theorem qO (m:Mat) (c:Nat):fQ (ivM m) c=ivM (cG m c):=by
 unfold fQ ivM cG
 rw [←List.map_tail,List.map_map,List.map_map]
 refine List.map_congr_left fun r _=>?_
 simp only [Function.comp,List.map_append,List.map_take,List.map_drop]
theorem vQ {m:Mat} {i:Nat} {r:List (Int × Int)} (h:m[i]?=some r):(ivM m)[i]?=some (r.map fun q=>ivc (some q)):=by
 unfold ivM
 rw [List.getElem?_map,h]
 rfl
theorem t8 (m:Mat):(ivM m).length=m.length:=by unfold ivM;rw [List.length_map]
theorem vR {n:Nat} {m:Mat} (h:square n m):∀ r ∈ ivM m,r.length=n:=fun r hr=>by
 unfold ivM at hr
 obtain ⟨s,hs,rfl⟩:=List.mem_map.1 hr
 rw [List.length_map]
 exact h.2 s hs
theorem rg {n:Nat} {m:Mat} {c:Nat} (hsq:square (n+2) m) (hc:c<n+2) (h:dX n m (c+1)=none):cV (n+2) m=none:=by
 have hl:(m.headD []).length=n+2:=by
  cases m with
  | nil=>have:=hsq.1;simp only [List.length_nil] at this;omega
  | cons r m=>exact hsq.2 r (List.mem_cons_self ..)
 rw [iX,hl]
 exact kV h _ (by omega)
theorem rh {n:Nat} {m:Mat} (hsq:square (n+2) m):cV (n+2) m=dX n m (n+2):=by
 have hl:(m.headD []).length=n+2:=by
  cases m with
  | nil=>have:=hsq.1;simp only [List.length_nil] at this;omega
  | cons r m=>exact hsq.2 r (List.mem_cons_self ..)
 rw [iX,hl]
theorem tv:in1 (some (0,0))=0∧in2 (some (0,0))=1∧in3 (some (0,0))=0∧in4 (some (0,0))=1:=by
 obtain ⟨k1,k2⟩:=sr (n:=0) (by decide) (by decide)
 exact ⟨k1,k2,k1,k2⟩
theorem ic:in1 none=0∧in2 none=0∧in3 none=0∧in4 none=0∧(none:Sp).isSome=false:=⟨rfl,rfl,rfl,rfl,rfl⟩
end M
theorem tz (n:Nat):∀ (m:M.Mat) (v:Value) (base:Nat) (w:World),n≤3→M.square (n+1) m→M.okM m→dQ w base v (M.ivM m)→
  Calls Tryz.prog 53 #[v] w fun e w'=>e=.returned (.tuple #[.agg #[.int .i64 (M.in1 (M.cV (n+1) m)),.int .i64 (M.in2 (M.cV (n+1) m)),.int .i64 (M.in3 (M.cV (n+1) m)),.int .i64 (M.in4 (M.cV (n+1) m))],.bool (M.cV (n+1) m).isSome])∧Below w.heap.size w w':=by
 induction n with
 | zero=>
  intro m v base w hn hsq hok hm
  obtain ⟨q,rfl⟩:∃ q,m=[[q]]:=by
   obtain ⟨h1,h2⟩:=hsq
   obtain ⟨r,rfl⟩:=List.length_eq_one_iff.1 h1
   obtain ⟨q,rfl⟩:=List.length_eq_one_iff.1 (h2 r (List.mem_cons_self ..))
   exact ⟨q,rfl⟩
  have hd:M.cV (0+1) [[q]]=some q:=rfl
  rw [hd]
  obtain ⟨gm,cap,g2,cap2,rfl,k0,k1,k2,k3,k4⟩:=hm.at (i:=0) (j:=0) (q:=M.ivc (some q)) (r:=[M.ivc (some q)]) rfl rfl
  have hl:(M.ivM [[q]]).length=1:=rfl
  simp only [Nat.zero_mul,Nat.zero_add,List.length_cons,List.length_nil,hl,M.ivc] at k0 k1 k2 k3 k4 ⊢
  clear hd hl hok hsq hm
  have e5:(some q:M.Sp).isSome=true:=rfl
  rw [e5]
  clear e5
  generalize M.in1 (some q)=q1 at *
  generalize M.in2 (some q)=q2 at *
  generalize M.in3 (some q)=q3 at *
  generalize M.in4 (some q)=q4 at *
  obtain ⟨wc,hw3,R,B⟩:=fZ w #[.int .i64 0,.int .i64 0,.int .i64 0,.int .i64 0] 64
  replace k0:=aE B k0
  replace k1:=aE B k1
  replace k2:=aE B k2
  replace k3:=aE B k3
  replace k4:=aE B k4
  have ⟨r0,r1,r2,r3,z0,z1,z2,z3,rl⟩:=R.aM
  go_enter Tryz.func53,Tryz.ntmps53
  go_wp2
  exact bodyPost_ret (v:=.tuple #[.agg #[.int .i64 q1,.int .i64 q2,.int .i64 q3,.int .i64 q4],.bool true]) (by simp [results,Tryz.results53,go_sem, *]) rfl (⟨rfl,wu (wu (wu (wu B (xA _) _) (xA _) _) (xA _) _) (xA _) _⟩)
 | succ n ih=>
 intro m v base w hn hsq hok hm
 obtain ⟨vs,hm⟩:=hm
 have hml:m.length=n+2:=hsq.1
 have hmlN:(M.ivM m).length=n+2:=by rw [M.t8];exact hml
 obtain ⟨r0,hr0⟩:∃ r,m[0]?=some r:=⟨_,List.getElem?_eq_getElem (by omega)⟩
 have hr0l:r0.length=n+2:=hsq.2 r0 (List.mem_of_getElem? hr0)
 have hhd:m.headD []=r0:=by
  cases m with
  | nil=>cases hr0
  | cons x m=>exact Option.some.inj hr0
 obtain ⟨rN,hrN⟩:∃ x,x=r0.map fun q=>M.ivc (some q):=⟨_,rfl⟩
 have hr0N:(M.ivM m)[0]?=some rN:=by rw [hrN];exact M.vQ hr0
 have hrNl:rN.length=n+2:=by rw [hrN,List.length_map];exact hr0l
 obtain ⟨gm,capm,rfl,hcm,hcm2,hgm⟩:=hm.form (fun h=>by rw [h] at hmlN;simp only [List.length_nil] at hmlN;omega)
 obtain ⟨g0,cap0,hv0,hc0,hg0⟩:=hm.rowIs hr0N (fun h=>by rw [h] at hrNl;simp only [List.length_nil] at hrNl;omega)
 rw [hrNl] at hv0 hc0
 rw [hmlN] at hm hcm ⊢
 have kr0:=hm.gR hv0
 have PMn:=ws (fun c (hc:c<n+2) W h=>qI n c (M.ivM m) (.slice (some ⟨gm,0,none⟩) (n+2) capm) base W (by omega) hmlN (M.vR hsq) hc h)
 have hnone:=ws (fun c (hc:c<n+2) h=>M.rg (n:=n) (m:=m) (c:=c) hsq hc h)
 have hsome:=ws (M.rh (n:=n) (m:=m) hsq)
 have hsq:=ws hsq
 have hrN:=ws hrN
 have hr0:=ws hr0
 have hr0N:=ws hr0N
 have hr0l:=ws hr0l
 have hml:=ws hml
 have hhd:=ws hhd
 have hok:=ws hok
 have hm:=ws hm
 have hv0:=ws hv0
 have ih:=ws ih
 clear hmlN hrNl
 have PI:=ws fun W=>tq 0 W
 obtain ⟨wc,hw3,R,B⟩:=fZ w #[.int .i64 0,.int .i64 0,.int .i64 0,.int .i64 0] 64
 replace kr0:=aE B kr0
 have hn1:(n:Int)≤2:=by omega
 have hne1:((n:Int)+2 == 1)=false:=by rw [beq_eq_false_iff_ne];omega
 go_enter Tryz.func53,Tryz.ntmps53
 go_wp2_with (go_at_call 68;(with_reducible refine (PI.out _).mono ?_);rintro e w5 ⟨rfl,hb5⟩;(replace B:=B.trans (hb5.mono B.size));(replace R:=R.keep hb5);(replace kr0:=aE hb5 kr0);(have kr1:=aE ((ww _ w5).alloc (xA _) (.cells #[.int .i64 0,.int .i64 1,.int .i64 0,.int .i64 1] 64)) kr0))
 have S:=aH.new w5 #[.int .i64 0,.int .i64 1,.int .i64 0,.int .i64 1] 64
 have hrl:=R.lt
 replace R:=R.alloc (.cells #[.int .i64 0,.int .i64 1,.int .i64 0,.int .i64 1] 64)
 replace B:=B.alloc B.size (.cells #[.int .i64 0,.int .i64 1,.int .i64 0,.int .i64 1] 64)
 have hsl:=S.lt
 have nSR:w5.heap.size≠w.heap.size:=by omega
 have nRS:w.heap.size≠w5.heap.size:=by omega
 have hsb:w.heap.size≤w5.heap.size:=by omega
 go_loopw [28] (fun vc wq=>∃ (c:Nat) (s:Int × Int),c≤n+2∧vc=.int .i64 (c:Int)∧Hid (M.dX n m c=some s)∧aH wq w5.heap.size 64 #[.int .i64 (M.in1 (some s)),.int .i64 (M.in2 (some s)),.int .i64 (M.in3 (some s)),.int .i64 (M.in4 (some s))]∧aH wq w.heap.size 64 #[.int .i64 0,.int .i64 0,.int .i64 0,.int .i64 0]∧w5.heap.size+1≤wq.heap.size∧Below w.heap.size w wq) (fun vc _=>n+2 - (intOf vc).toNat)
 case atStart=>
  obtain ⟨e1,e2,e3,e4⟩:=M.tv
  exact ⟨0,(0,0),Nat.zero_le _,rfl,ws rfl,by rw [e1,e2,e3,e4];exact S,R,hsl,B⟩
 case round=>
 clear S R B kr0 hrl hsl
 generalize w5.heap.size=sb at *
 obtain ⟨c,s,hc,rfl,hs,S,R,hwz,B⟩:=hrel
 generalize hwo:wr=wo at *
 clear hwo
 by_cases hlt:c<n+2
 ·obtain ⟨q,hq⟩:∃ q,r0[c]?=some q:=⟨_,List.getElem?_eq_getElem (by have:=hr0l.out;omega)⟩
  have hqs:M.aN q.1 q.2=true:=hok.out r0 (List.mem_of_getElem? hr0.out) _ (List.mem_of_getElem? hq)
  have hqN:rN[c]?=some (M.ivc (some q)):=by rw [hrN.out,List.getElem?_map,hq];rfl
  have hmq:=ws (hm.out.below B)
  obtain ⟨d0,d1,d2,d3⟩:=(hmq.out.rowFrom hv0.out hr0N.out).at4 hqN
  simp only [M.ivc] at d0 d1 d2 d3
  have hss:M.aN s.1 s.2=true:=M.lG (n:=n) (m:=m) c s hs.out
  have hsq1:=M.gU hsq.out hlt
  have hok1:=M.kQ (c:=c) hok.out
  have PD:=fun vo b W h=>ih.out (M.cG m c) vo b W (by omega) hsq1 hok1 h
  have PN:=PMn.out c hlt
  rw [M.qO] at PN
  have hdo:=M.ij hok1 (n+1)
  have hnx:=M.fo n m c
  rw [hs.out,hhd.out,hq] at hnx
  have hno:=hnone.out c hlt
  obtain ⟨mm,hmm⟩:∃ x,x=M.cG m c:=⟨_,rfl⟩
  obtain ⟨dd,hdd⟩:∃ x,x=M.cV (n+1) (M.cG m c):=⟨_,rfl⟩
  rw [←hdd] at PD hnx hdo
  rw [←hmm] at PD PN
  clear hmm hdd hsq1 hok1 hq hqN
  have hnx:=ws hnx
  have hno:=ws hno
  have Bv:=(ww wo.heap.size wo).alloc (xA _) (.cells #[.int .i64 (M.in1 (some q)),.int .i64 (M.in2 (some q)),.int .i64 (M.in3 (some q)),.int .i64 (M.in4 (some q))] 64)
  have X:=aH.new wo #[.int .i64 (M.in1 (some q)),.int .i64 (M.in2 (some q)),.int .i64 (M.in3 (some q)),.int .i64 (M.in4 (some q))] 64
  replace B:=B.trans (Bv.mono B.size)
  replace S:=S.keep Bv
  replace R:=R.keep Bv
  have hmq:=ws (hmq.out.below Bv)
  generalize hw2:wo.alloc (.cells #[.int .i64 (M.in1 (some q)),.int .i64 (M.in2 (some q)),.int .i64 (M.in3 (some q)),.int .i64 (M.in4 (some q))] 64)=wb at *
  clear Bv
  have hwz2:sb+1≤wb.heap.size:=by have:=S.lt;omega
  have hmw:=ws (show dQ wb base (.slice (some ⟨gm,0,none⟩) (n+2) capm) (M.ivM m) from ⟨vs,hmq.out⟩)
  cases dd with
  | none=>
   have hfin:M.cV (n+1+1) m=none:=hno.out (by rw [hnx.out];exact M.eC _ _)
   have hfin:=ws hfin
   have e9:=ws M.ic
   rw [e9.out.1,e9.out.2.1,e9.out.2.2.1,e9.out.2.2.2.1,e9.out.2.2.2.2] at PD
   clear e9
   generalize M.in1 (some q)=q1 at *
   generalize M.in2 (some q)=q2 at *
   generalize M.in3 (some q)=q3 at *
   generalize M.in4 (some q)=q4 at *
   replace PD:=ws PD
   replace PN:=ws PN
   clear hno hnx hnone hsome ih
   go_wp2_with first | (go_at_call 69;(with_reducible refine (PN.out _ hmw.out).mono ?_);rintro e w4 ⟨vo,rfl,hM4,hb4⟩;(replace B:=B.trans (hb4.mono B.size));(replace X:=X.keep hb4);(replace S:=S.keep hb4);(replace R:=R.keep hb4)) | (go_at_call 53;(with_reducible refine (PD.out _ _ _ hM4).mono ?_);rintro e w6 ⟨rfl,hb6⟩;(replace B:=(B.trans (hb6.mono B.size)).alloc (Nat.le_trans B.size hb6.size) (.cells #[.int .i64 0,.int .i64 0,.int .i64 0,.int .i64 0] 64));(replace X:=(X.keep hb6).alloc (.cells #[.int .i64 0,.int .i64 0,.int .i64 0,.int .i64 0] 64));(replace S:=(S.keep hb6).alloc (.cells #[.int .i64 0,.int .i64 0,.int .i64 0,.int .i64 0] 64));(replace R:=(R.keep hb6).alloc (.cells #[.int .i64 0,.int .i64 0,.int .i64 0,.int .i64 0] 64));(have Y:=aH.new w6 #[.int .i64 0,.int .i64 0,.int .i64 0,.int .i64 0] 64);(have ⟨ky0,ky1,ky2,ky3,_,_,_,_,_⟩:=Y.aM);(have ⟨kx0,kx1,kx2,kx3,_,_,_,_,_⟩:=X.aM);(have ⟨r0,r1,r2,r3,z0,z1,z2,z3,rl⟩:=R.aM))
   exact bodyPost_ret (v:=.tuple #[.agg #[.int .i64 0,.int .i64 0,.int .i64 0,.int .i64 0],.bool false]) (by simp [results,Tryz.results53,go_sem, *]) rfl (⟨by rw [hfin.out];rfl,wu (wu (wu (wu B (xA _) _) (xA _) _) (xA _) _) (xA _) _⟩)
  | some d=>
  have hds:M.aN d.1 d.2=true:=hdo d rfl
  have PX:=fun W=>sW q d W hqs hds
  have e5:(some d:M.Sp).isSome=true:=rfl
  rw [e5] at PD
  clear e5
  obtain ⟨pp,hpp⟩:∃ x,x=M.eS (some q) (some d):=⟨_,rfl⟩
  have hpo:M.okS pp:=by rw [hpp];exact M.pS
  have hnx2:=hnx.out
  rw [←hpp] at hnx2 PX
  replace hnx:=ws hnx2
  clear hnx2 hpp
  generalize M.in1 (some q)=q1 at *
  generalize M.in2 (some q)=q2 at *
  generalize M.in3 (some q)=q3 at *
  generalize M.in4 (some q)=q4 at *
  generalize M.in1 (some d)=d1 at *
  generalize M.in2 (some d)=d2 at *
  generalize M.in3 (some d)=d3 at *
  generalize M.in4 (some d)=d4 at *
  replace PD:=ws PD
  replace PN:=ws PN
  cases pp with
  | none=>
   have hfin:M.cV (n+1+1) m=none:=hno.out (by rw [hnx.out];exact M.eC _ _)
   have hfin:=ws hfin
   have e9:=ws M.ic
   rw [e9.out.1,e9.out.2.1,e9.out.2.2.1,e9.out.2.2.2.1,e9.out.2.2.2.2] at PX
   clear e9
   replace PX:=ws PX
   clear hno hnx hnone hsome ih
   go_wp2_with first | (go_at_call 69;(with_reducible refine (PN.out _ hmw.out).mono ?_);rintro e w4 ⟨vo,rfl,hM4,hb4⟩;(replace B:=B.trans (hb4.mono B.size));(replace X:=X.keep hb4);(replace S:=S.keep hb4);(replace R:=R.keep hb4)) | (go_at_call 53;(with_reducible refine (PD.out _ _ _ hM4).mono ?_);rintro e w6 ⟨rfl,hb6⟩;(replace B:=(B.trans (hb6.mono B.size)).alloc (Nat.le_trans B.size hb6.size) (.cells #[.int .i64 d1,.int .i64 d2,.int .i64 d3,.int .i64 d4] 64));(replace X:=(X.keep hb6).alloc (.cells #[.int .i64 d1,.int .i64 d2,.int .i64 d3,.int .i64 d4] 64));(replace S:=(S.keep hb6).alloc (.cells #[.int .i64 d1,.int .i64 d2,.int .i64 d3,.int .i64 d4] 64));(replace R:=(R.keep hb6).alloc (.cells #[.int .i64 d1,.int .i64 d2,.int .i64 d3,.int .i64 d4] 64));(have Y:=aH.new w6 #[.int .i64 d1,.int .i64 d2,.int .i64 d3,.int .i64 d4] 64);(have ⟨ky0,ky1,ky2,ky3,_,_,_,_,_⟩:=Y.aM);(have ⟨kx0,kx1,kx2,kx3,_,_,_,_,_⟩:=X.aM);(have ⟨r0,r1,r2,r3,z0,z1,z2,z3,rl⟩:=R.aM)) | (go_at_call 70;(with_reducible refine (PX.out _).mono ?_);rintro e w7 ⟨rfl,hb7⟩;(replace B:=(B.trans (hb7.mono B.size)).alloc (Nat.le_trans B.size hb7.size) (.cells #[.int .i64 0,.int .i64 0,.int .i64 0,.int .i64 0] 64));(replace S:=(S.keep hb7).alloc (.cells #[.int .i64 0,.int .i64 0,.int .i64 0,.int .i64 0] 64));(replace R:=(R.keep hb7).alloc (.cells #[.int .i64 0,.int .i64 0,.int .i64 0,.int .i64 0] 64));(have Z:=aH.new w7 #[.int .i64 0,.int .i64 0,.int .i64 0,.int .i64 0] 64);(have ⟨ka0,ka1,ka2,ka3,_,_,_,_,_⟩:=Z.aM);(have ⟨ks0,ks1,ks2,ks3,_,_,_,_,_⟩:=S.aM);(have ⟨r0,r1,r2,r3,z0,z1,z2,z3,rl⟩:=R.aM))
   exact bodyPost_ret (v:=.tuple #[.agg #[.int .i64 0,.int .i64 0,.int .i64 0,.int .i64 0],.bool false]) (by simp [results,Tryz.results53,go_sem, *]) rfl (⟨by rw [hfin.out];rfl,wu (wu (wu (wu B (xA _) _) (xA _) _) (xA _) _) (xA _) _⟩)
  | some p=>
  have hps:M.aN p.1 p.2=true:=hpo p rfl
  have e5:(some p:M.Sp).isSome=true:=rfl
  rw [e5] at PX
  clear e5
  have PA:=fun W=>mU s p W hss hps
  have PS:=fun W=>mV s p W hss hps
  have hst:M.dh (some s) (some p) c=if c % 2=0 then M.eK (some s) (some p) else M.cP (some s) (some p):=rfl
  have hnx2:=hnx.out
  rw [hst] at hnx2
  clear hst hnx hss hps hpo hds hdo hqs
  obtain ⟨ad,had⟩:∃ x,x=M.eK (some s) (some p):=⟨_,rfl⟩
  obtain ⟨su,hsu⟩:∃ x,x=M.cP (some s) (some p):=⟨_,rfl⟩
  rw [←had,←hsu] at hnx2
  rw [←had] at PA
  rw [←hsu] at PS
  clear had hsu
  generalize M.in1 (some p)=p1 at *
  generalize M.in2 (some p)=p2 at *
  generalize M.in3 (some p)=p3 at *
  generalize M.in4 (some p)=p4 at *
  generalize M.in1 (some s)=s1 at *
  generalize M.in2 (some s)=s2 at *
  generalize M.in3 (some s)=s3 at *
  generalize M.in4 (some s)=s4 at *
  replace PX:=ws PX
  have ht:Int.tmod ((c:Nat):Int) 2=((c % 2:Nat):Int):=(Int.ofNat_tmod c 2).symm
  rcases Nat.mod_two_eq_zero_or_one c with hp | hp
  ·rw [hp] at ht
   rw [if_pos hp] at hnx2
   clear PS
   cases ad with
   | none=>
    have hfin:M.cV (n+1+1) m=none:=hno.out hnx2
    have hfin:=ws hfin
    have e9:=ws M.ic
    rw [e9.out.1,e9.out.2.1,e9.out.2.2.1,e9.out.2.2.2.1,e9.out.2.2.2.2] at PA
    clear e9
    replace PA:=ws PA
    clear hno hnx2 hnone hsome ih hs
    go_wp2_with first | (go_at_call 69;(with_reducible refine (PN.out _ hmw.out).mono ?_);rintro e w4 ⟨vo,rfl,hM4,hb4⟩;(replace B:=B.trans (hb4.mono B.size));(replace X:=X.keep hb4);(replace S:=S.keep hb4);(replace R:=R.keep hb4)) | (go_at_call 53;(with_reducible refine (PD.out _ _ _ hM4).mono ?_);rintro e w6 ⟨rfl,hb6⟩;(replace B:=(B.trans (hb6.mono B.size)).alloc (Nat.le_trans B.size hb6.size) (.cells #[.int .i64 d1,.int .i64 d2,.int .i64 d3,.int .i64 d4] 64));(replace X:=(X.keep hb6).alloc (.cells #[.int .i64 d1,.int .i64 d2,.int .i64 d3,.int .i64 d4] 64));(replace S:=(S.keep hb6).alloc (.cells #[.int .i64 d1,.int .i64 d2,.int .i64 d3,.int .i64 d4] 64));(replace R:=(R.keep hb6).alloc (.cells #[.int .i64 d1,.int .i64 d2,.int .i64 d3,.int .i64 d4] 64));(have Y:=aH.new w6 #[.int .i64 d1,.int .i64 d2,.int .i64 d3,.int .i64 d4] 64);(have ⟨ky0,ky1,ky2,ky3,_,_,_,_,_⟩:=Y.aM);(have ⟨kx0,kx1,kx2,kx3,_,_,_,_,_⟩:=X.aM);(have ⟨r0,r1,r2,r3,z0,z1,z2,z3,rl⟩:=R.aM)) | (go_at_call 70;(with_reducible refine (PX.out _).mono ?_);rintro e w7 ⟨rfl,hb7⟩;(replace B:=(B.trans (hb7.mono B.size)).alloc (Nat.le_trans B.size hb7.size) (.cells #[.int .i64 p1,.int .i64 p2,.int .i64 p3,.int .i64 p4] 64));(replace S:=(S.keep hb7).alloc (.cells #[.int .i64 p1,.int .i64 p2,.int .i64 p3,.int .i64 p4] 64));(replace R:=(R.keep hb7).alloc (.cells #[.int .i64 p1,.int .i64 p2,.int .i64 p3,.int .i64 p4] 64));(have Z:=aH.new w7 #[.int .i64 p1,.int .i64 p2,.int .i64 p3,.int .i64 p4] 64);(have ⟨ka0,ka1,ka2,ka3,_,_,_,_,_⟩:=Z.aM);(have ⟨ks0,ks1,ks2,ks3,_,_,_,_,_⟩:=S.aM);(have ⟨r0,r1,r2,r3,z0,z1,z2,z3,rl⟩:=R.aM)) | (go_at_call 71;(with_reducible refine (PA.out _).mono ?_);rintro e w8 ⟨rfl,hb8⟩;(have hs8:=ws (S.keep hb8).lt);(have hr8:=ws (R.keep hb8).lt);(replace B:=(B.trans (hb8.mono B.size)).alloc (Nat.le_trans B.size hb8.size) (.cells #[.int .i64 0,.int .i64 0,.int .i64 0,.int .i64 0] 64));(replace S:=(S.keep hb8).alloc (.cells #[.int .i64 0,.int .i64 0,.int .i64 0,.int .i64 0] 64));(replace R:=(R.keep hb8).alloc (.cells #[.int .i64 0,.int .i64 0,.int .i64 0,.int .i64 0] 64));(replace Z:=(Z.keep hb8).alloc (.cells #[.int .i64 0,.int .i64 0,.int .i64 0,.int .i64 0] 64));(have N:=aH.new w8 #[.int .i64 0,.int .i64 0,.int .i64 0,.int .i64 0] 64);(have ⟨kn0,kn1,kn2,kn3,nz0,nz1,nz2,nz3,nl⟩:=N.aM);(have ⟨ka0,ka1,ka2,ka3,_,_,_,_,_⟩:=Z.aM);(have ⟨ks0,ks1,ks2,ks3,sz0,sz1,sz2,sz3,sl⟩:=S.aM);(have ⟨r0,r1,r2,r3,z0,z1,z2,z3,rl⟩:=R.aM))
    exact bodyPost_ret (v:=.tuple #[.agg #[.int .i64 0,.int .i64 0,.int .i64 0,.int .i64 0],.bool false]) (by simp [results,Tryz.results53,go_sem, *]) rfl (⟨by rw [hfin.out];rfl,wu (wu (wu (wu B (xA _) _) (xA _) _) (xA _) _) (xA _) _⟩)
   | some sx=>
   have hnx:=ws hnx2
   have e5:(some sx:M.Sp).isSome=true:=rfl
   rw [e5] at PA
   clear e5 hnx2
   obtain ⟨x1,hx1⟩:∃ x,x=M.in1 (some sx):=⟨_,rfl⟩
   obtain ⟨x2,hx2⟩:∃ x,x=M.in2 (some sx):=⟨_,rfl⟩
   obtain ⟨x3,hx3⟩:∃ x,x=M.in3 (some sx):=⟨_,rfl⟩
   obtain ⟨x4,hx4⟩:∃ x,x=M.in4 (some sx):=⟨_,rfl⟩
   rw [←hx1,←hx2,←hx3,←hx4] at PA
   replace hx1:=ws hx1
   replace hx2:=ws hx2
   replace hx3:=ws hx3
   replace hx4:=ws hx4
   replace PA:=ws PA
   go_wp2_with first | (go_at_call 69;(with_reducible refine (PN.out _ hmw.out).mono ?_);rintro e w4 ⟨vo,rfl,hM4,hb4⟩;(replace B:=B.trans (hb4.mono B.size));(replace X:=X.keep hb4);(replace S:=S.keep hb4);(replace R:=R.keep hb4)) | (go_at_call 53;(with_reducible refine (PD.out _ _ _ hM4).mono ?_);rintro e w6 ⟨rfl,hb6⟩;(replace B:=(B.trans (hb6.mono B.size)).alloc (Nat.le_trans B.size hb6.size) (.cells #[.int .i64 d1,.int .i64 d2,.int .i64 d3,.int .i64 d4] 64));(replace X:=(X.keep hb6).alloc (.cells #[.int .i64 d1,.int .i64 d2,.int .i64 d3,.int .i64 d4] 64));(replace S:=(S.keep hb6).alloc (.cells #[.int .i64 d1,.int .i64 d2,.int .i64 d3,.int .i64 d4] 64));(replace R:=(R.keep hb6).alloc (.cells #[.int .i64 d1,.int .i64 d2,.int .i64 d3,.int .i64 d4] 64));(have Y:=aH.new w6 #[.int .i64 d1,.int .i64 d2,.int .i64 d3,.int .i64 d4] 64);(have ⟨ky0,ky1,ky2,ky3,_,_,_,_,_⟩:=Y.aM);(have ⟨kx0,kx1,kx2,kx3,_,_,_,_,_⟩:=X.aM);(have ⟨r0,r1,r2,r3,z0,z1,z2,z3,rl⟩:=R.aM)) | (go_at_call 70;(with_reducible refine (PX.out _).mono ?_);rintro e w7 ⟨rfl,hb7⟩;(replace B:=(B.trans (hb7.mono B.size)).alloc (Nat.le_trans B.size hb7.size) (.cells #[.int .i64 p1,.int .i64 p2,.int .i64 p3,.int .i64 p4] 64));(replace S:=(S.keep hb7).alloc (.cells #[.int .i64 p1,.int .i64 p2,.int .i64 p3,.int .i64 p4] 64));(replace R:=(R.keep hb7).alloc (.cells #[.int .i64 p1,.int .i64 p2,.int .i64 p3,.int .i64 p4] 64));(have Z:=aH.new w7 #[.int .i64 p1,.int .i64 p2,.int .i64 p3,.int .i64 p4] 64);(have ⟨ka0,ka1,ka2,ka3,_,_,_,_,_⟩:=Z.aM);(have ⟨ks0,ks1,ks2,ks3,_,_,_,_,_⟩:=S.aM);(have ⟨r0,r1,r2,r3,z0,z1,z2,z3,rl⟩:=R.aM)) | (go_at_call 71;(with_reducible refine (PA.out _).mono ?_);rintro e w8 ⟨rfl,hb8⟩;(have hs8:=ws (S.keep hb8).lt);(have hr8:=ws (R.keep hb8).lt);(replace B:=(B.trans (hb8.mono B.size)).alloc (Nat.le_trans B.size hb8.size) (.cells #[.int .i64 x1,.int .i64 x2,.int .i64 x3,.int .i64 x4] 64));(replace S:=(S.keep hb8).alloc (.cells #[.int .i64 x1,.int .i64 x2,.int .i64 x3,.int .i64 x4] 64));(replace R:=(R.keep hb8).alloc (.cells #[.int .i64 x1,.int .i64 x2,.int .i64 x3,.int .i64 x4] 64));(replace Z:=(Z.keep hb8).alloc (.cells #[.int .i64 x1,.int .i64 x2,.int .i64 x3,.int .i64 x4] 64));(have N:=aH.new w8 #[.int .i64 x1,.int .i64 x2,.int .i64 x3,.int .i64 x4] 64);(have ⟨kn0,kn1,kn2,kn3,nz0,nz1,nz2,nz3,nl⟩:=N.aM);(have ⟨ka0,ka1,ka2,ka3,_,_,_,_,_⟩:=Z.aM);(have ⟨ks0,ks1,ks2,ks3,sz0,sz1,sz2,sz3,sl⟩:=S.aM);(have ⟨r0,r1,r2,r3,z0,z1,z2,z3,rl⟩:=R.aM))
   go_roundw
   case rel=>exact ⟨c+1,sx,by omega,by go_num,hnx,by rw [←hx1.out,←hx2.out,←hx3.out,←hx4.out];exact aH.j8 S _ _ _ _,R.fS nRS _ _ _ _,by rw [aZ,aZ,aZ,aZ];omega,wu (wu (wu (wu B hsb _) hsb _) hsb _) hsb _⟩
   case measure=>simp [intOf] <;> omega
  rw [hp] at ht
  rw [if_neg (by omega)] at hnx2
  generalize M.in1 ad=v1 at *
  generalize M.in2 ad=v2 at *
  generalize M.in3 ad=v3 at *
  generalize M.in4 ad=v4 at *
  generalize ad.isSome=fv at *
  replace PA:=ws PA
  cases su with
  | none=>
   have hfin:M.cV (n+1+1) m=none:=hno.out hnx2
   have hfin:=ws hfin
   have e9:=ws M.ic
   rw [e9.out.1,e9.out.2.1,e9.out.2.2.1,e9.out.2.2.2.1,e9.out.2.2.2.2] at PS
   clear e9
   replace PS:=ws PS
   clear hno hnx2 hnone hsome ih hs
   go_wp2_with first | (go_at_call 69;(with_reducible refine (PN.out _ hmw.out).mono ?_);rintro e w4 ⟨vo,rfl,hM4,hb4⟩;(replace B:=B.trans (hb4.mono B.size));(replace X:=X.keep hb4);(replace S:=S.keep hb4);(replace R:=R.keep hb4)) | (go_at_call 53;(with_reducible refine (PD.out _ _ _ hM4).mono ?_);rintro e w6 ⟨rfl,hb6⟩;(replace B:=(B.trans (hb6.mono B.size)).alloc (Nat.le_trans B.size hb6.size) (.cells #[.int .i64 d1,.int .i64 d2,.int .i64 d3,.int .i64 d4] 64));(replace X:=(X.keep hb6).alloc (.cells #[.int .i64 d1,.int .i64 d2,.int .i64 d3,.int .i64 d4] 64));(replace S:=(S.keep hb6).alloc (.cells #[.int .i64 d1,.int .i64 d2,.int .i64 d3,.int .i64 d4] 64));(replace R:=(R.keep hb6).alloc (.cells #[.int .i64 d1,.int .i64 d2,.int .i64 d3,.int .i64 d4] 64));(have Y:=aH.new w6 #[.int .i64 d1,.int .i64 d2,.int .i64 d3,.int .i64 d4] 64);(have ⟨ky0,ky1,ky2,ky3,_,_,_,_,_⟩:=Y.aM);(have ⟨kx0,kx1,kx2,kx3,_,_,_,_,_⟩:=X.aM);(have ⟨r0,r1,r2,r3,z0,z1,z2,z3,rl⟩:=R.aM)) | (go_at_call 70;(with_reducible refine (PX.out _).mono ?_);rintro e w7 ⟨rfl,hb7⟩;(replace B:=(B.trans (hb7.mono B.size)).alloc (Nat.le_trans B.size hb7.size) (.cells #[.int .i64 p1,.int .i64 p2,.int .i64 p3,.int .i64 p4] 64));(replace S:=(S.keep hb7).alloc (.cells #[.int .i64 p1,.int .i64 p2,.int .i64 p3,.int .i64 p4] 64));(replace R:=(R.keep hb7).alloc (.cells #[.int .i64 p1,.int .i64 p2,.int .i64 p3,.int .i64 p4] 64));(have Z:=aH.new w7 #[.int .i64 p1,.int .i64 p2,.int .i64 p3,.int .i64 p4] 64);(have ⟨ka0,ka1,ka2,ka3,_,_,_,_,_⟩:=Z.aM);(have ⟨ks0,ks1,ks2,ks3,_,_,_,_,_⟩:=S.aM);(have ⟨r0,r1,r2,r3,z0,z1,z2,z3,rl⟩:=R.aM)) | (go_at_call 71;(with_reducible refine (PA.out _).mono ?_);rintro e w8 ⟨rfl,hb8⟩;(have hs8:=ws (S.keep hb8).lt);(have hr8:=ws (R.keep hb8).lt);(replace B:=(B.trans (hb8.mono B.size)).alloc (Nat.le_trans B.size hb8.size) (.cells #[.int .i64 v1,.int .i64 v2,.int .i64 v3,.int .i64 v4] 64));(replace S:=(S.keep hb8).alloc (.cells #[.int .i64 v1,.int .i64 v2,.int .i64 v3,.int .i64 v4] 64));(replace R:=(R.keep hb8).alloc (.cells #[.int .i64 v1,.int .i64 v2,.int .i64 v3,.int .i64 v4] 64));(replace Z:=(Z.keep hb8).alloc (.cells #[.int .i64 v1,.int .i64 v2,.int .i64 v3,.int .i64 v4] 64));(have N:=aH.new w8 #[.int .i64 v1,.int .i64 v2,.int .i64 v3,.int .i64 v4] 64);(have ⟨kn0,kn1,kn2,kn3,nz0,nz1,nz2,nz3,nl⟩:=N.aM);(have ⟨ka0,ka1,ka2,ka3,_,_,_,_,_⟩:=Z.aM);(have ⟨ks0,ks1,ks2,ks3,sz0,sz1,sz2,sz3,sl⟩:=S.aM);(have ⟨r0,r1,r2,r3,z0,z1,z2,z3,rl⟩:=R.aM)) | (go_at_call 72;(with_reducible refine (PS.out _).mono ?_);rintro e w9 ⟨rfl,hb9⟩;(have n1_:sb≠w8.heap.size:=by have:=hs8.out;omega);(have hz8:w.heap.size≤w8.heap.size:=by have:=hr8.out;omega);(have n2_:w.heap.size≠w8.heap.size:=by have:=hr8.out;omega);(replace B:=wu (wu (wu (wu (B.trans (hb9.mono B.size)) (p:=⟨w8.heap.size,0,none⟩) (by show w.heap.size≤w8.heap.size;omega) (.int .i64 0)) (p:=⟨w8.heap.size,1,none⟩) (by show w.heap.size≤w8.heap.size;omega) (.int .i64 0)) (p:=⟨w8.heap.size,2,none⟩) (by show w.heap.size≤w8.heap.size;omega) (.int .i64 0)) (p:=⟨w8.heap.size,3,none⟩) (by show w.heap.size≤w8.heap.size;omega) (.int .i64 0));(replace S:=(S.keep hb9).fS n1_ (.int .i64 0) (.int .i64 0) (.int .i64 0) (.int .i64 0));(replace R:=(R.keep hb9).fS n2_ (.int .i64 0) (.int .i64 0) (.int .i64 0) (.int .i64 0));(replace N:=(N.keep hb9));(have ⟨kn0,kn1,kn2,kn3,nz0,nz1,nz2,nz3,nl⟩:=N.aM);(replace N:=N.j8 (.int .i64 0) (.int .i64 0) (.int .i64 0) (.int .i64 0));(have ⟨km0,km1,km2,km3,_,_,_,_,_⟩:=N.aM);(have ⟨ks0,ks1,ks2,ks3,sz0,sz1,sz2,sz3,sl⟩:=S.aM);(have ⟨r0,r1,r2,r3,z0,z1,z2,z3,rl⟩:=R.aM))
   exact bodyPost_ret (v:=.tuple #[.agg #[.int .i64 0,.int .i64 0,.int .i64 0,.int .i64 0],.bool false]) (by simp [results,Tryz.results53,go_sem, *]) rfl (⟨by rw [hfin.out];rfl,wu (wu (wu (wu B (xA _) _) (xA _) _) (xA _) _) (xA _) _⟩)
  | some sx=>
  have hnx:=ws hnx2
  have e5:(some sx:M.Sp).isSome=true:=rfl
  rw [e5] at PS
  clear e5 hnx2
  obtain ⟨x1,hx1⟩:∃ x,x=M.in1 (some sx):=⟨_,rfl⟩
  obtain ⟨x2,hx2⟩:∃ x,x=M.in2 (some sx):=⟨_,rfl⟩
  obtain ⟨x3,hx3⟩:∃ x,x=M.in3 (some sx):=⟨_,rfl⟩
  obtain ⟨x4,hx4⟩:∃ x,x=M.in4 (some sx):=⟨_,rfl⟩
  rw [←hx1,←hx2,←hx3,←hx4] at PS
  replace hx1:=ws hx1
  replace hx2:=ws hx2
  replace hx3:=ws hx3
  replace hx4:=ws hx4
  replace PS:=ws PS
  go_wp2_with first | (go_at_call 69;(with_reducible refine (PN.out _ hmw.out).mono ?_);rintro e w4 ⟨vo,rfl,hM4,hb4⟩;(replace B:=B.trans (hb4.mono B.size));(replace X:=X.keep hb4);(replace S:=S.keep hb4);(replace R:=R.keep hb4)) | (go_at_call 53;(with_reducible refine (PD.out _ _ _ hM4).mono ?_);rintro e w6 ⟨rfl,hb6⟩;(replace B:=(B.trans (hb6.mono B.size)).alloc (Nat.le_trans B.size hb6.size) (.cells #[.int .i64 d1,.int .i64 d2,.int .i64 d3,.int .i64 d4] 64));(replace X:=(X.keep hb6).alloc (.cells #[.int .i64 d1,.int .i64 d2,.int .i64 d3,.int .i64 d4] 64));(replace S:=(S.keep hb6).alloc (.cells #[.int .i64 d1,.int .i64 d2,.int .i64 d3,.int .i64 d4] 64));(replace R:=(R.keep hb6).alloc (.cells #[.int .i64 d1,.int .i64 d2,.int .i64 d3,.int .i64 d4] 64));(have Y:=aH.new w6 #[.int .i64 d1,.int .i64 d2,.int .i64 d3,.int .i64 d4] 64);(have ⟨ky0,ky1,ky2,ky3,_,_,_,_,_⟩:=Y.aM);(have ⟨kx0,kx1,kx2,kx3,_,_,_,_,_⟩:=X.aM);(have ⟨r0,r1,r2,r3,z0,z1,z2,z3,rl⟩:=R.aM)) | (go_at_call 70;(with_reducible refine (PX.out _).mono ?_);rintro e w7 ⟨rfl,hb7⟩;(replace B:=(B.trans (hb7.mono B.size)).alloc (Nat.le_trans B.size hb7.size) (.cells #[.int .i64 p1,.int .i64 p2,.int .i64 p3,.int .i64 p4] 64));(replace S:=(S.keep hb7).alloc (.cells #[.int .i64 p1,.int .i64 p2,.int .i64 p3,.int .i64 p4] 64));(replace R:=(R.keep hb7).alloc (.cells #[.int .i64 p1,.int .i64 p2,.int .i64 p3,.int .i64 p4] 64));(have Z:=aH.new w7 #[.int .i64 p1,.int .i64 p2,.int .i64 p3,.int .i64 p4] 64);(have ⟨ka0,ka1,ka2,ka3,_,_,_,_,_⟩:=Z.aM);(have ⟨ks0,ks1,ks2,ks3,_,_,_,_,_⟩:=S.aM);(have ⟨r0,r1,r2,r3,z0,z1,z2,z3,rl⟩:=R.aM)) | (go_at_call 71;(with_reducible refine (PA.out _).mono ?_);rintro e w8 ⟨rfl,hb8⟩;(have hs8:=ws (S.keep hb8).lt);(have hr8:=ws (R.keep hb8).lt);(replace B:=(B.trans (hb8.mono B.size)).alloc (Nat.le_trans B.size hb8.size) (.cells #[.int .i64 v1,.int .i64 v2,.int .i64 v3,.int .i64 v4] 64));(replace S:=(S.keep hb8).alloc (.cells #[.int .i64 v1,.int .i64 v2,.int .i64 v3,.int .i64 v4] 64));(replace R:=(R.keep hb8).alloc (.cells #[.int .i64 v1,.int .i64 v2,.int .i64 v3,.int .i64 v4] 64));(replace Z:=(Z.keep hb8).alloc (.cells #[.int .i64 v1,.int .i64 v2,.int .i64 v3,.int .i64 v4] 64));(have N:=aH.new w8 #[.int .i64 v1,.int .i64 v2,.int .i64 v3,.int .i64 v4] 64);(have ⟨kn0,kn1,kn2,kn3,nz0,nz1,nz2,nz3,nl⟩:=N.aM);(have ⟨ka0,ka1,ka2,ka3,_,_,_,_,_⟩:=Z.aM);(have ⟨ks0,ks1,ks2,ks3,sz0,sz1,sz2,sz3,sl⟩:=S.aM);(have ⟨r0,r1,r2,r3,z0,z1,z2,z3,rl⟩:=R.aM)) | (go_at_call 72;(with_reducible refine (PS.out _).mono ?_);rintro e w9 ⟨rfl,hb9⟩;(have n1_:sb≠w8.heap.size:=by have:=hs8.out;omega);(have hz8:w.heap.size≤w8.heap.size:=by have:=hr8.out;omega);(have n2_:w.heap.size≠w8.heap.size:=by have:=hr8.out;omega);(replace B:=wu (wu (wu (wu (B.trans (hb9.mono B.size)) (p:=⟨w8.heap.size,0,none⟩) (by show w.heap.size≤w8.heap.size;omega) (.int .i64 x1)) (p:=⟨w8.heap.size,1,none⟩) (by show w.heap.size≤w8.heap.size;omega) (.int .i64 x2)) (p:=⟨w8.heap.size,2,none⟩) (by show w.heap.size≤w8.heap.size;omega) (.int .i64 x3)) (p:=⟨w8.heap.size,3,none⟩) (by show w.heap.size≤w8.heap.size;omega) (.int .i64 x4));(replace S:=(S.keep hb9).fS n1_ (.int .i64 x1) (.int .i64 x2) (.int .i64 x3) (.int .i64 x4));(replace R:=(R.keep hb9).fS n2_ (.int .i64 x1) (.int .i64 x2) (.int .i64 x3) (.int .i64 x4));(replace N:=(N.keep hb9));(have ⟨kn0,kn1,kn2,kn3,nz0,nz1,nz2,nz3,nl⟩:=N.aM);(replace N:=N.j8 (.int .i64 x1) (.int .i64 x2) (.int .i64 x3) (.int .i64 x4));(have ⟨km0,km1,km2,km3,_,_,_,_,_⟩:=N.aM);(have ⟨ks0,ks1,ks2,ks3,sz0,sz1,sz2,sz3,sl⟩:=S.aM);(have ⟨r0,r1,r2,r3,z0,z1,z2,z3,rl⟩:=R.aM))
  go_roundw
  case rel=>exact ⟨c+1,sx,by omega,by go_num,hnx,by rw [←hx1.out,←hx2.out,←hx3.out,←hx4.out];exact aH.j8 S _ _ _ _,R.fS nRS _ _ _ _,by rw [aZ,aZ,aZ,aZ];omega,wu (wu (wu (wu B hsb _) hsb _) hsb _) hsb _⟩
  case measure=>simp [intOf] <;> omega
 obtain rfl:c=n+2:=by omega
 have hd:M.cV (n+1+1) m=some s:=by rw [←hs.out];exact hsome.out
 have hd:=ws hd
 obtain ⟨x1,hx1⟩:∃ x,x=M.in1 (some s):=⟨_,rfl⟩
 obtain ⟨x2,hx2⟩:∃ x,x=M.in2 (some s):=⟨_,rfl⟩
 obtain ⟨x3,hx3⟩:∃ x,x=M.in3 (some s):=⟨_,rfl⟩
 obtain ⟨x4,hx4⟩:∃ x,x=M.in4 (some s):=⟨_,rfl⟩
 rw [←hx1,←hx2,←hx3,←hx4] at S
 replace hx1:=ws hx1
 replace hx2:=ws hx2
 replace hx3:=ws hx3
 replace hx4:=ws hx4
 have ⟨ks0,ks1,ks2,ks3,_,_,_,_,_⟩:=S.aM
 have ⟨r0,r1,r2,r3,z0,z1,z2,z3,rl⟩:=R.aM
 go_wp2
 exact bodyPost_ret (v:=.tuple #[.agg #[.int .i64 x1,.int .i64 x2,.int .i64 x3,.int .i64 x4],.bool true]) (by simp [results,Tryz.results53,go_sem, *]) rfl (⟨by rw [hd.out,hx1.out,hx2.out,hx3.out,hx4.out];rfl,wu (wu (wu (wu B (xA _) _) (xA _) _) (xA _) _) (xA _) _⟩)
namespace M
theorem uL {a b:Int} {l:List Pt} {i j:Nat}:okS (ent a b l i j):=by
 have hp:∀ X1 Y1 E1 X2 Y2 E2,okS (dS a b X1 Y1 E1 X2 Y2 E2):=fun X1 Y1 E1 X2 Y2 E2=>by
  unfold dS
  split
  ·exact ik
  exact d7
 unfold ent
 split
 ·split
  ·exact pR
  split <;> exact hp _ _ _ _ _ _
 exact d7
theorem nF {s:Sp} (h:s.isSome=true):some (spc s)=s:=by
 cases s with
 | none=>cases h
 | some p=>rfl
theorem pC {a b:Int} {l:List Pt} (h:mOk a b l=true) {i j:Nat} (hi:i<l.length) (hj:j<l.length):(ent a b l i j).isSome=true:=by
 unfold mOk at h
 simp only [List.all_eq_true,List.mem_range] at h
 exact h i hi j hj
theorem jX {a b:Int} {l:List Pt} (h:mOk a b l=true):dg a b l=(List.range l.length).map (fun i=>(List.range l.length).map fun j=>spc (ent a b l i j)):=by
 unfold dg
 rw [h]
 rfl
theorem mZ {a b:Int} {l:List Pt} (h:mOk a b l=true):square l.length (dg a b l):=by
 rw [jX h]
 refine ⟨by rw [List.length_map,List.length_range],fun r hr=>?_⟩
 obtain ⟨i,hi,rfl⟩:=List.mem_map.1 hr
 rw [List.length_map,List.length_range]
theorem jY {a b:Int} {l:List Pt} (h:mOk a b l=true):okM (dg a b l):=by
 rw [jX h]
 intro r hr q hq
 obtain ⟨i,hi,rfl⟩:=List.mem_map.1 hr
 obtain ⟨j,hj,rfl⟩:=List.mem_map.1 hq
 have:=pC h (List.mem_range.1 hi) (List.mem_range.1 hj)
 exact uL (a:=a) (b:=b) (l:=l) (i:=i) (j:=j) _ (nF this).symm
theorem se {a b:Int} {l:List Pt} (h:mOk a b l=true):kM a b l=ivM (dg a b l):=by
 rw [kN h,jX h]
 unfold ivM iQ
 rw [List.map_map]
 refine List.map_congr_left fun i hi=>?_
 simp only [Function.comp,List.map_map]
 refine List.map_congr_left fun j hj=>?_
 simp only [Function.comp]
 rw [nF (pC h (List.mem_range.1 hi) (List.mem_range.1 hj))]
noncomputable def cM (a b:Int) (l:List Pt):Sp:=if mOk a b l=true then cV l.length (dg a b l) else none
theorem lN {a b:Int} {l:List Pt} (h:mOk a b l=false):cM a b l=none:=by unfold cM;rw [h];rfl
theorem jd {a b:Int} {l:List Pt} (h:mOk a b l=true):cM a b l=cV l.length (dg a b l):=by unfold cM;rw [h];rfl
theorem pv (n:Nat) (m:Mat):fG true n m=cV n m:=by
 unfold fG
 split
 ·rename_i h;rw [h]
 rfl
end M
theorem ml (a b:Int) (v:Value) (l:List Pt) (w:World) (hx:eG w v l) (hg:M.good a b=true) (h1:1≤l.length) (hn:l.length≤4) (hp:∀ p ∈ l,M.bS a b p.1 p.2.1 p.2.2=true) :
  Calls Tryz.prog 35 #[.agg #[.int .i64 a,.int .i64 b],v] w fun e w'=>e=.returned (.tuple #[.agg #[.int .i64 (M.slo (M.cM a b l)),.int .i64 (M.shi (M.cM a b l))],.bool (M.cM a b l).isSome])∧Below w.heap.size w w':=by
 obtain ⟨n,hl⟩:∃ n,l.length=n+1:=⟨l.length - 1,by omega⟩
 have PM:=fun W h=>iR a b v l W h hg hn hp
 have PD:=fun (h:M.mOk a b l=true) v g base W hm K=>wN n (M.dg a b l) v g base true W (by omega) (by rw [←hl];exact M.mZ h) (M.jY h) hm K
 have hry:=fun h=>M.jd (a:=a) (b:=b) (l:=l) h
 have hrn:=fun h=>M.lN (a:=a) (b:=b) (l:=l) h
 rw [hl] at hry
 generalize M.cM a b l=rs at *
 generalize M.dg a b l=rows at *
 replace hx:=ws hx
 obtain ⟨wc,hw3,C,R,B⟩:=ph w #[.int .i64 a,.int .i64 b] 29 #[.int .i64 0,.int .i64 0] 68
 have hxc:=ws (hx.out.below B)
 have hzz:w.heap.size+2≤wc.heap.size:=by have:=R.lt;omega
 have C_c0:=C.box.c0
 have C_c1:=C.box.c1
 cases hm:M.mOk a b l with
 | false=>
  rw [hm] at PM
  have hfin:=ws (hrn hm)
  replace PM:=ws PM
  clear PD hry hrn hm
  go_enter Tryz.func35,Tryz.ntmps35
  go_wp2_with (go_at_call 58;(with_reducible refine (PM.out _ hxc.out).mono ?_);rintro e w4 ⟨mv,rfl,hM,hb4⟩;(replace B:=B.trans (hb4.mono B.size));(replace R:=R.keep hb4);(have ⟨r0,r1,z0,z1,rl⟩:=R.box))
  exact bodyPost_ret (v:=.tuple #[.agg #[.int .i64 0,.int .i64 0],.bool false]) (by simp [results,Tryz.results35,go_sem, *]) rfl (⟨by rw [hfin.out];rfl,wu (wu B (by simp) _) (by simp) _⟩)
 | true=>
 rw [hm] at PM
 replace PD:=PD hm
 simp only [M.pv,Bool.true_and] at PD
 rw [←hry hm] at PD
 replace PM:=ws PM
 replace PD:=ws PD
 generalize rs.isSome=f at *
 generalize M.slo rs=lo at *
 generalize M.shi rs=hi at *
 clear hry hrn hm
 go_enter Tryz.func35,Tryz.ntmps35
 go_wp2_with first | (go_at_call 58;(with_reducible refine (PM.out _ hxc.out).mono ?_);rintro e w4 ⟨mv,rfl,hM,hb4⟩;(have hz4:=hb4.size);(have Ba:=(ww w4.heap.size w4).alloc (xA _) (.cells #[.bool true] 94));(have K:=aH.new w4 #[.bool true] 94);(replace hM:=ws (hM.below Ba));(replace R:=(R.keep hb4).keep Ba);(replace B:=(B.trans (hb4.mono B.size)).trans (Ba.mono (Nat.le_trans B.size hb4.size)));(have nR:w.heap.size+1≠w4.heap.size:=by omega);(have hsz:=B.size);(have nB:w.heap.size≤w4.heap.size:=by omega);(clear Ba C_c0 C_c1 C hxc)) | (go_at_call 59;(with_reducible refine (PD.out _ _ _ _ hM.out K).mono ?_);rintro e w6 ⟨rfl,hb6⟩;(have hb7:=bD hb6);(replace R:=(R.other (i:=0) nR (.bool f)).keep hb7);(replace K:=(K.one (.bool f)).keep hb7);(replace B:=(wu B nB (.bool f)).trans (hb6.mono hsz));(have Ba:=(ww w6.heap.size w6).alloc (xA _) (.cells #[.int .i64 lo,.int .i64 hi] 68));(have V:=aH.new w6 #[.int .i64 lo,.int .i64 hi] 68);(replace B:=B.trans (Ba.mono B.size));(replace R:=R.keep Ba);(replace K:=K.keep Ba);(have k0:=K.cell 0);(have ⟨v0,v1,_,_,_⟩:=V.box);(have ⟨r0,r1,z0,z1,rl⟩:=R.box);(clear hb6 hb7 Ba))
 go_region
 all_goals
  go_wp2
  exact bodyPost_ret (v:=.tuple #[.agg #[.int .i64 lo,.int .i64 hi],.bool f]) (by simp [results,Tryz.results35,go_sem, *]) rfl (⟨rfl,Below.drew (wu (wu B (by simp) _) (by simp) _)⟩)
theorem jw (a b:Int) (v:Value) (l:List Pt) (w:World) (hx:eG w v l) (hg:M.good a b=true) (h1:1≤l.length) (hn:l.length≤4) (hp:∀ p ∈ l,M.bS a b p.1 p.2.1 p.2.2=true) :
  Calls Tryz.prog 33 #[.agg #[.int .i64 a,.int .i64 b],v] w fun e w'=>e=.returned (.tuple #[.agg #[.int .i64 (M.in1 (M.cM a b l)),.int .i64 (M.in2 (M.cM a b l)),.int .i64 (M.in3 (M.cM a b l)),.int .i64 (M.in4 (M.cM a b l))],.bool (M.cM a b l).isSome])∧Below w.heap.size w w':=by
 obtain ⟨n,hl⟩:∃ n,l.length=n+1:=⟨l.length - 1,by omega⟩
 have PM:=fun W h=>np a b v l W h hg hn hp
 have PD:=fun (h:M.mOk a b l=true) v base W hm=>tz n (M.dg a b l) v base W (by omega) (by rw [←hl];exact M.mZ h) (M.jY h) hm
 have hry:=fun h=>M.jd (a:=a) (b:=b) (l:=l) h
 have hrn:=fun h=>M.lN (a:=a) (b:=b) (l:=l) h
 have hiv:=fun h=>M.se (a:=a) (b:=b) (l:=l) h
 rw [hl] at hry
 generalize M.cM a b l=rs at *
 generalize M.dg a b l=rows at *
 replace hx:=ws hx
 obtain ⟨wc,hw3,C,R,B⟩:=ph w #[.int .i64 a,.int .i64 b] 29 #[.int .i64 0,.int .i64 0,.int .i64 0,.int .i64 0] 64
 have hxc:=ws (hx.out.below B)
 have C_c0:=C.box.c0
 have C_c1:=C.box.c1
 cases hm:M.mOk a b l with
 | false=>
  rw [hm] at PM
  have hfin:=ws (hrn hm)
  replace PM:=ws PM
  clear PD hry hrn hm
  go_enter Tryz.func33,Tryz.ntmps33
  go_wp2_with (go_at_call 52;(with_reducible refine (PM.out _ hxc.out).mono ?_);rintro e w4 ⟨mv,rfl,hM,hb4⟩;(replace B:=B.trans (hb4.mono B.size));(replace R:=R.keep hb4);(have ⟨r0,r1,r2,r3,z0,z1,z2,z3,rl⟩:=R.aM))
  exact bodyPost_ret (v:=.tuple #[.agg #[.int .i64 0,.int .i64 0,.int .i64 0,.int .i64 0],.bool false]) (by simp [results,Tryz.results33,go_sem, *]) rfl (⟨by rw [hfin.out];rfl,wu (wu (wu (wu B (by simp) _) (by simp) _) (by simp) _) (by simp) _⟩)
 | true=>
 rw [hm] at PM
 replace PD:=PD hm
 rw [←hry hm] at PD
 rw [hiv hm] at PM
 replace PM:=ws PM
 replace PD:=ws PD
 generalize rs.isSome=f at *
 generalize M.in1 rs=i1 at *
 generalize M.in2 rs=i2 at *
 generalize M.in3 rs=i3 at *
 generalize M.in4 rs=i4 at *
 clear hry hrn hm hiv
 go_enter Tryz.func33,Tryz.ntmps33
 go_wp2_with first | (go_at_call 52;(with_reducible refine (PM.out _ hxc.out).mono ?_);rintro e w4 ⟨mv,rfl,hM,hb4⟩;(replace hM:=ws hM);(replace B:=B.trans (hb4.mono B.size));(replace R:=R.keep hb4)) | (go_at_call 53;(with_reducible refine (PD.out _ _ _ hM.out).mono ?_);rintro e w6 ⟨rfl,hb6⟩;(replace B:=B.trans (hb6.mono B.size));(replace R:=R.keep hb6);(have ⟨r0,r1,r2,r3,z0,z1,z2,z3,rl⟩:=R.aM))
 exact bodyPost_ret (v:=.tuple #[.agg #[.int .i64 i1,.int .i64 i2,.int .i64 i3,.int .i64 i4],.bool f]) (by simp [results,Tryz.results33,go_sem, *]) rfl (⟨rfl,wu (wu (wu (wu B (by simp) _) (by simp) _) (by simp) _) (by simp) _⟩)
end
section
open Go.RowKit Go.Shelf
def EPt:Rw.Enc (Int × Int × Int) where
 t:=57
 k:=3
 cells:=fun q=>[.int .i64 q.1,.int .i64 q.2.1,.int .i64 q.2.2]
 len:=fun _=>rfl
 one:=fun x u hu=>by simp only [List.mem_cons,List.not_mem_nil,or_false] at hu;rcases hu with rfl | rfl | rfl <;> rfl
 pos:=by decide
theorem vP:(Tryz.prog.info? 57).map (fun i=>(i.zero,i.size,i.bytes))=some (some (.agg #[.int .i64 0,.int .i64 0,.int .i64 0]),3,24):=by kernel_rfl
theorem Rw.Seen.pts {w:World} {hi:Nat} {v:Value} {l:List Pt} (h:Rw.Seen EPt w hi v l):eG w v l:=by
 obtain ⟨a,cap,rfl,h1,h2,h3⟩:=h
 refine ⟨a,cap,rfl,?_⟩
 cases l with
 | nil=>exact Or.inl rfl
 | cons p l=>
 obtain ⟨g,x,e,-⟩:=h3 0 (by simp)
 refine Or.inr ⟨g,e,fun i y hy=>?_⟩
 obtain ⟨g2,x2,e2,-,hx2,hc⟩:=h3 i (List.getElem?_eq_some_iff.1 hy).1
 rw [e] at e2
 injection e2 with e2
 injection e2 with e2
 subst e2
 rw [hy] at hx2
 obtain rfl:=Option.some.inj hx2.out
 exact ⟨hc 0 _ rfl,hc 1 _ rfl,hc 2 _ rfl⟩
theorem oW (a b:Int) (w:World) :
  Calls Tryz.prog 10 #[.agg #[.int .i64 a,.int .i64 b]] w fun e w'=>e=.returned (.agg #[.int .i64 a,.int .i64 b])∧Below w.heap.size w w':=by
 go_enter Tryz.func10,Tryz.ntmps10
 go_wp2
 exact bodyPost_ret (v:=.agg #[.int .i64 a,.int .i64 b]) (by simp [results,Tryz.results10,go_sem, *]) rfl (⟨rfl,(by repeat (first | exact ww _ _ | refine aR ?_ _ | refine aS ?_ (by assumption) | refine Below.drew ?_ | refine wu ?_ (by first | exact xA _ | exact Nat.le_add_right _ _ | (simp <;> omega)) _ | refine aL ?_ _))⟩)
theorem qp (a b c:Int) (w:World) :
  Calls Tryz.prog 28 #[.agg #[.int .i64 a,.int .i64 b,.int .i64 c]] w fun e w'=>e=.returned (.agg #[.int .i64 a,.int .i64 b,.int .i64 c])∧Below w.heap.size w w':=by
 go_enter Tryz.func28,Tryz.ntmps28
 go_wp2
 exact bodyPost_ret (v:=.agg #[.int .i64 a,.int .i64 b,.int .i64 c]) (by simp [results,Tryz.results28,go_sem, *]) rfl (⟨rfl,(by repeat (first | exact ww _ _ | refine aR ?_ _ | refine aS ?_ (by assumption) | refine Below.drew ?_ | refine wu ?_ (by first | exact xA _ | exact Nat.le_add_right _ _ | (simp <;> omega)) _ | refine aL ?_ _))⟩)
theorem qC (a b c d e f:Int) (w:World) :
  Calls Tryz.prog 37 #[.agg #[.int .i64 a,.int .i64 b,.int .i64 c],.agg #[.int .i64 d,.int .i64 e,.int .i64 f]] w fun r w'=>r=.returned (.bool (decide ((a,b,c)=(d,e,f))))∧Below w.heap.size w w':=by
 by_cases h1:a=d <;> by_cases h2:b=e <;> by_cases h3:c=f
 all_goals
  go_enter Tryz.func37,Tryz.ntmps37
  go_wp2
  go_ret;exact ⟨cj (by simp [h1,h2,h3]),(by repeat (first | exact ww _ _ | refine aR ?_ _ | refine aS ?_ (by assumption) | refine Below.drew ?_ | refine wu ?_ (by first | exact xA _ | exact Nat.le_add_right _ _ | (simp <;> omega)) _ | refine aL ?_ _))⟩
theorem wg {w:World} {base g n cap j:Nat} {xs:List (Int × Int × Int)} (hn:n=xs.length) (h:Rw.Own EPt w base (.slice (some ⟨g,0,none⟩) n cap) xs) (hj:j<n) (c:Int × Int × Int) {ys:List (Int × Int × Int)} (hy:ys=xs.set j c) :
  Rw.Own EPt (((w.setCell ⟨g,j*3,none⟩ (.int .i64 c.1)).setCell ⟨g,j*3+1,none⟩ (.int .i64 c.2.1)).setCell ⟨g,j*3+2,none⟩ (.int .i64 c.2.2)) base (.slice (some ⟨g,0,none⟩) n cap) ys∧w.grownBy (((w.setCell ⟨g,j*3,none⟩ (.int .i64 c.1)).setCell ⟨g,j*3+1,none⟩ (.int .i64 c.2.1)).setCell ⟨g,j*3+2,none⟩ (.int .i64 c.2.2)) (some g):=by
 subst hn hy
 have h1:=World.ownsRow.stored (g:=g) (cap:=cap) h (j*3) (.int .i64 c.1)
 have h2:=World.ownsRow.stored (g:=g) (cap:=cap) h1.1 (j*3+1) (.int .i64 c.2.1)
 have h3:=World.ownsRow.stored (g:=g) (cap:=cap) h2.1 (j*3+2) (.int .i64 c.2.2)
 refine ⟨?_,da (da (h1.2) h2.2) h3.2⟩
 have e:(((xs.flatMap EPt.cells).set (j*3) (.int .i64 c.1)).set (j*3+1) (.int .i64 c.2.1)).set (j*3+2) (.int .i64 c.2.2)=(xs.set j c).flatMap EPt.cells:=by
  refine List.ext_getElem? fun t=>?_
  have hl:(xs.flatMap EPt.cells).length=xs.length*3:=Rw.cK EPt xs
  rw [Rw.jK EPt xs j c hj]
  have hk:EPt.k=3:=rfl
  rw [hk]
  rcases (show t=j*3∨t=j*3+1∨t=j*3+2∨¬(j*3≤t∧t<j*3+3) by omega) with ht | ht | ht | ht
  ·subst ht
   rw [List.getElem?_set_ne (by omega),List.getElem?_set_ne (by omega),List.getElem?_set_self (by first | omega | (simp only [List.length_set];omega)),if_pos (by omega),show j*3 - j*3=0 from by omega]
   rfl
  ·subst ht
   rw [List.getElem?_set_ne (by omega),List.getElem?_set_self (by first | omega | (simp only [List.length_set];omega)),if_pos (by omega),show j*3+1 - j*3=1 from by omega]
   rfl
  ·subst ht
   rw [List.getElem?_set_self (by first | omega | (simp only [List.length_set];omega)),if_pos (by omega),show j*3+2 - j*3=2 from by omega]
   rfl
  rw [List.getElem?_set_ne (by omega),List.getElem?_set_ne (by omega),List.getElem?_set_ne (by omega),if_neg ht]
 have h9:=h3.1
 rw [e] at h9
 unfold Rw.Own
 rw [List.length_set]
 exact h9
theorem vH {w:World} {base g n cap j:Nat} {xs:List (Int × Int × Int)} {c:Int × Int × Int} (hn:n=xs.length) (h:Rw.Own EPt w base (.slice (some ⟨g,0,none⟩) n cap) xs) (hc:xs[j]?=some c) :
  w.cell? ⟨g,j*3,none⟩=some (.int .i64 c.1)∧w.cell? ⟨g,j*3+1,none⟩=some (.int .i64 c.2.1)∧w.cell? ⟨g,j*3+2,none⟩=some (.int .i64 c.2.2)∧w.frozen? ⟨g,j*3,none⟩=false∧w.frozen? ⟨g,j*3+1,none⟩=false∧w.frozen? ⟨g,j*3+2,none⟩=false:=by
 have e0:=h.cellAt hn (j*3) _ ((Rw.flat_get EPt xs j 0 c hc (by decide)).trans rfl)
 have e1:=h.cellAt hn (j*3+1) _ ((Rw.flat_get EPt xs j 1 c hc (by decide)).trans rfl)
 have e2:=h.cellAt hn (j*3+2) _ ((Rw.flat_get EPt xs j 2 c hc (by decide)).trans rfl)
 exact ⟨e0.1,e1.1,e2.1,e0.2,e1.2,e2.2⟩
theorem nh (v u:Value) (xs ys:List (Int × Int × Int)) (w:World) (h1 h2:Nat) (hx:Rw.Seen EPt w h1 v xs) (hy:Rw.Seen EPt w h2 u ys) (hh1:h1≤w.heap.size) (hh2:h2≤w.heap.size) :
  Calls Tryz.prog 14 #[v,u] w fun e w'=>e=.returned (.bool (decide (xs=ys)))∧Below w.heap.size w w':=by
 obtain ⟨a,cap,rfl,hm,hm2,hv⟩:=hx
 obtain ⟨a',cap',rfl,hm',hm2',hv'⟩:=hy
 by_cases hl:xs.length=ys.length
 ·have hl':=ws hl
  rw [hl] at hv hm ⊢
  clear hl
  obtain ⟨n,hn⟩:∃ n,n=ys.length:=⟨_,rfl⟩
  rw [←hn] at hv hv' hm hm' ⊢
  have hn:=ws hn
  have hnm:(n:Int)≤9223372036854775807:=by omega
  go_enter Tryz.func14,Tryz.ntmps14
  go_wp2
  go_loopw [5] (fun vi wr=>∃ k:Nat,k≤n∧vi=.int .i64 k∧Hid (∀ j:Nat,j<k→xs[j]?=ys[j]?)∧Below w.heap.size w wr) (fun vi _=>n - (intOf vi).toNat)
  case atStart=>exact ⟨0,by omega,rfl,ws (fun j h=>by omega),ww _ _⟩
  case round=>
  obtain ⟨k,hk,rfl,Hall,hbr⟩:=hrel
  by_cases hlt:k<n
  ·obtain ⟨g,x,rfl,hg,hx,hcell⟩:=hv k (by omega)
   obtain ⟨g',y,rfl,hg',hy,hcell'⟩:=hv' k hlt
   have e0_:wr.cell? ⟨g,k*3,none⟩=some (.int .i64 x.1):=(hbr.cell (p:=⟨g,k*3,none⟩) (Nat.lt_of_lt_of_le hg hh1)).trans (hcell 0 _ rfl)
   have e1_:wr.cell? ⟨g,k*3+1,none⟩=some (.int .i64 x.2.1):=(hbr.cell (p:=⟨g,k*3+1,none⟩) (Nat.lt_of_lt_of_le hg hh1)).trans (hcell 1 _ rfl)
   have e2_:wr.cell? ⟨g,k*3+2,none⟩=some (.int .i64 x.2.2):=(hbr.cell (p:=⟨g,k*3+2,none⟩) (Nat.lt_of_lt_of_le hg hh1)).trans (hcell 2 _ rfl)
   have f0_:wr.cell? ⟨g',k*3,none⟩=some (.int .i64 y.1):=(hbr.cell (p:=⟨g',k*3,none⟩) (Nat.lt_of_lt_of_le hg' hh2)).trans (hcell' 0 _ rfl)
   have f1_:wr.cell? ⟨g',k*3+1,none⟩=some (.int .i64 y.2.1):=(hbr.cell (p:=⟨g',k*3+1,none⟩) (Nat.lt_of_lt_of_le hg' hh2)).trans (hcell' 1 _ rfl)
   have f2_:wr.cell? ⟨g',k*3+2,none⟩=some (.int .i64 y.2.2):=(hbr.cell (p:=⟨g',k*3+2,none⟩) (Nat.lt_of_lt_of_le hg' hh2)).trans (hcell' 2 _ rfl)
   clear hv hv' hcell hcell'
   obtain ⟨x1,x2,x3⟩:=x
   obtain ⟨y1,y2,y3⟩:=y
   simp only [] at e0_ e1_ e2_ f0_ f1_ f2_
   have HE:=fun w=>qC x1 x2 x3 y1 y2 y3 w
   have hkk:((k:Nat):Int)<((n:Nat):Int):=by omega
   by_cases hxy:(x1,x2,x3)=(y1,y2,y3)
   ·have hd:decide ((x1,x2,x3)=(y1,y2,y3))=true:=decide_eq_true hxy
    simp only [hd] at HE
    have HE:=ws HE
    have hxy:=ws hxy
    clear hd
    go_upto_region 6 with fail
    refine Rg.bG 10 [.is (.slice (some ⟨g,0,none⟩) n cap),.is (.int .i64 ((k:Nat):Int)),.is (.pointer (some ⟨g,k*3,none⟩)),.is (.agg #[.int .i64 x1,.int .i64 x2,.int .i64 x3]),.is (.slice (some ⟨g',0,none⟩) n cap'),.is (.int .i64 ((k:Nat):Int)),.is (.pointer (some ⟨g',k*3,none⟩)),.is (.agg #[.int .i64 y1,.int .i64 y2,.int .i64 y3]),.is (.bool true),.is (.bool false)] (by kernel_rfl) (by kernel_rfl) (by kernel_rfl) ⟨?_,?_,?_,?_,?_,?_,?_,?_,?_,?_,trivial⟩ ?_
    ·intro _ ac_ w_ hB hr
     have e0:ac_.tmps[0]?=some (.slice (some ⟨g,0,none⟩) n cap):=hr 0 (by decide)
     exact Rg.aG rfl (by go_simp)
    ·intro _ ac_ w_ hB hr
     have e5:ac_.tmps[5]?=some (.int .i64 ((k:Nat):Int)):=hr 5 (by decide)
     exact Rg.aG rfl (by go_simp)
    ·intro _ ac_ w_ hB hr
     have e17:=Rg.ev1 (hr 17 (by decide))
     have e18:=Rg.ev1 (hr 18 (by decide))
     exact Rg.aG rfl (by (first | (go_simp;done) | (go_simp;omega)))
    ·intro _ ac_ w_ hB hr
     have e19:=Rg.ev1 (hr 19 (by decide))
     have k0:=aE hB e0_
     have k1:=aE hB e1_
     have k2:=aE hB e2_
     exact Rg.aG rfl (by (first | (go_simp;done) | (go_simp;omega)))
    ·intro _ ac_ w_ hB hr
     have e1:ac_.tmps[1]?=some (.slice (some ⟨g',0,none⟩) n cap'):=hr 1 (by decide)
     exact Rg.aG rfl (by go_simp)
    ·intro _ ac_ w_ hB hr
     have e5:ac_.tmps[5]?=some (.int .i64 ((k:Nat):Int)):=hr 5 (by decide)
     exact Rg.aG rfl (by go_simp)
    ·intro _ ac_ w_ hB hr
     have e21:=Rg.ev1 (hr 21 (by decide))
     have e22:=Rg.ev1 (hr 22 (by decide))
     exact Rg.aG rfl (by (first | (go_simp;done) | (go_simp;omega)))
    ·intro _ ac_ w_ hB hr
     have e23:=Rg.ev1 (hr 23 (by decide))
     have k0:=aE hB f0_
     have k1:=aE hB f1_
     have k2:=aE hB f2_
     exact Rg.aG rfl (by (first | (go_simp;done) | (go_simp;omega)))
    ·intro _ ac_ w_ hB hr
     have e20:=Rg.ev1 (hr 20 (by decide))
     have e24:=Rg.ev1 (hr 24 (by decide))
     have ef:=Rg.ef ac_
     exact Rg.bR rfl (by go_simp) (HE.out _)
    ·intro _ ac_ w_ hB hr
     have e25:=Rg.ev1 (hr 25 (by decide))
     exact Rg.aG rfl (by go_simp)
    intro vals wz hB hv hne
    have v_9:vals 9=.bool false:=hv 9 (by decide)
    simp only [Rg.ak,Rg.fill,Act.put,Nat.reduceAdd]
    clear hv
    simp only [v_9]
    clear v_9
    unfold Rg.aW
    go_wp2
    go_roundw
    case rel=>exact ⟨k+1,by omega,by go_num,ws (fun j hj=>if q:j=k then by rw [q,hx.out,hy.out,hxy.out] else Hall.out j (by omega)),hbr.trans (hB.mono hbr.size)⟩
    case measure=>simp [intOf] <;> omega
   have hd:decide ((x1,x2,x3)=(y1,y2,y3))=false:=decide_eq_false hxy
   simp only [hd] at HE
   have HE:=ws HE
   clear hd
   have hnq:decide (xs=ys)=false:=by
    rw [decide_eq_false_iff_not]
    intro he
    have h1:=hx.out
    rw [he,hy.out] at h1
    exact hxy (Option.some.inj h1).symm
   have hnq:=ws hnq
   have hxy:=ws hxy
   go_upto_region 6 with fail
   refine Rg.bG 10 [.is (.slice (some ⟨g,0,none⟩) n cap),.is (.int .i64 ((k:Nat):Int)),.is (.pointer (some ⟨g,k*3,none⟩)),.is (.agg #[.int .i64 x1,.int .i64 x2,.int .i64 x3]),.is (.slice (some ⟨g',0,none⟩) n cap'),.is (.int .i64 ((k:Nat):Int)),.is (.pointer (some ⟨g',k*3,none⟩)),.is (.agg #[.int .i64 y1,.int .i64 y2,.int .i64 y3]),.is (.bool false),.is (.bool true)] (by kernel_rfl) (by kernel_rfl) (by kernel_rfl) ⟨?_,?_,?_,?_,?_,?_,?_,?_,?_,?_,trivial⟩ ?_
   ·intro _ ac_ w_ hB hr
    have e0:ac_.tmps[0]?=some (.slice (some ⟨g,0,none⟩) n cap):=hr 0 (by decide)
    exact Rg.aG rfl (by go_simp)
   ·intro _ ac_ w_ hB hr
    have e5:ac_.tmps[5]?=some (.int .i64 ((k:Nat):Int)):=hr 5 (by decide)
    exact Rg.aG rfl (by go_simp)
   ·intro _ ac_ w_ hB hr
    have e17:=Rg.ev1 (hr 17 (by decide))
    have e18:=Rg.ev1 (hr 18 (by decide))
    exact Rg.aG rfl (by (first | (go_simp;done) | (go_simp;omega)))
   ·intro _ ac_ w_ hB hr
    have e19:=Rg.ev1 (hr 19 (by decide))
    have k0:=aE hB e0_
    have k1:=aE hB e1_
    have k2:=aE hB e2_
    exact Rg.aG rfl (by (first | (go_simp;done) | (go_simp;omega)))
   ·intro _ ac_ w_ hB hr
    have e1:ac_.tmps[1]?=some (.slice (some ⟨g',0,none⟩) n cap'):=hr 1 (by decide)
    exact Rg.aG rfl (by go_simp)
   ·intro _ ac_ w_ hB hr
    have e5:ac_.tmps[5]?=some (.int .i64 ((k:Nat):Int)):=hr 5 (by decide)
    exact Rg.aG rfl (by go_simp)
   ·intro _ ac_ w_ hB hr
    have e21:=Rg.ev1 (hr 21 (by decide))
    have e22:=Rg.ev1 (hr 22 (by decide))
    exact Rg.aG rfl (by (first | (go_simp;done) | (go_simp;omega)))
   ·intro _ ac_ w_ hB hr
    have e23:=Rg.ev1 (hr 23 (by decide))
    have k0:=aE hB f0_
    have k1:=aE hB f1_
    have k2:=aE hB f2_
    exact Rg.aG rfl (by (first | (go_simp;done) | (go_simp;omega)))
   ·intro _ ac_ w_ hB hr
    have e20:=Rg.ev1 (hr 20 (by decide))
    have e24:=Rg.ev1 (hr 24 (by decide))
    have ef:=Rg.ef ac_
    exact Rg.bR rfl (by go_simp) (HE.out _)
   ·intro _ ac_ w_ hB hr
    have e25:=Rg.ev1 (hr 25 (by decide))
    exact Rg.aG rfl (by go_simp)
   intro vals wz hB hv hne
   have v_9:vals 9=.bool true:=hv 9 (by decide)
   simp only [Rg.ak,Rg.fill,Act.put,Nat.reduceAdd]
   clear hv
   simp only [v_9]
   clear v_9
   unfold Rg.aW
   go_wp2
   go_ret
   exact ⟨cj hnq.out.symm,hbr.trans (hB.mono hbr.size)⟩
  obtain rfl:n=k:=by omega
  clear hv hv'
  have hall:decide (xs=ys)=true:=by
   rw [decide_eq_true_iff]
   refine List.ext_getElem? fun j=>?_
   rcases Nat.lt_or_ge j n with q | q
   ·exact Hall.out j q
   rw [List.getElem?_eq_none (l:=xs) (i:=j) (by have:=hl'.out;have:=hn.out;omega),List.getElem?_eq_none (l:=ys) (i:=j) (by have:=hn.out;omega)]
  have hall:=ws hall
  go_wp2
  go_ret
  exact ⟨cj hall.out.symm,hbr⟩
 have hne:Hid (decide (xs=ys)=false):=ws (by
  rw [decide_eq_false_iff_not]
  exact fun he=>hl (by rw [he]))
 have hl2:¬ ((xs.length:Int)=ys.length):=by omega
 clear hv hv'
 go_enter Tryz.func14,Tryz.ntmps14
 go_wp2
 go_ret
 exact ⟨cj hne.out.symm,(by repeat (first | exact ww _ _ | refine aR ?_ _ | refine aS ?_ (by assumption) | refine Below.drew ?_ | refine wu ?_ (by first | exact xA _ | exact Nat.le_add_right _ _ | (simp <;> omega)) _ | refine aL ?_ _))⟩
def cJ (w:World) (v:Value) (xs:List Pt):Prop:=
 ∃ (A:Option Addr) (cap:Nat),v=.slice A xs.length cap∧(xs.length:Int)≤9223372036854775807∧
  ∀ k,k<xs.length→∃ g o x,A=some ⟨g,o,none⟩∧g<w.heap.size∧Hid (xs[k]?=some x)∧w.cell? ⟨g,o+k*3,none⟩=some (.int .i64 x.1)∧w.cell? ⟨g,o+k*3+1,none⟩=some (.int .i64 x.2.1)∧w.cell? ⟨g,o+k*3+2,none⟩=some (.int .i64 x.2.2)
theorem cJ.keep {w w':World} {v:Value} {xs:List Pt} (h:cJ w v xs) (hb:Below w.heap.size w w'):cJ w' v xs:=by
 obtain ⟨A,cap,rfl,hm,hv⟩:=h
 refine ⟨A,cap,rfl,hm,fun k hk=>?_⟩
 obtain ⟨g,o,x,hA,hg,hx,h0,h1,h2⟩:=hv k hk
 exact ⟨g,o,x,hA,Nat.lt_of_lt_of_le hg hb.size,hx,aE hb h0,aE hb h1,aE hb h2⟩
theorem oQ (v:Value) (xs:List Pt) (w:World) (hx:cJ w v xs) :
  Calls Tryz.prog 8 #[v,.int .i64 1048576] w fun e w'=>e=.returned (.int .i64 (if xs.length≤1048576 then (1048576 - xs.length:Int) else -1))∧w=w':=by
 obtain ⟨A,cap,rfl,hm,hv⟩:=hx
 clear hv
 by_cases h:xs.length≤1048576
 ·rw [if_pos h]
  generalize xs.length=n at *
  go_enter Tryz.func8,Tryz.ntmps8
  go_wp2
  go_ret
  exact ⟨rfl,rfl⟩
 rw [if_neg h]
 generalize xs.length=n at *
 go_enter Tryz.func8,Tryz.ntmps8
 go_wp2
 go_ret
 exact ⟨rfl,rfl⟩
theorem nu (n:Nat):(madeCells #[.int .i64 0,.int .i64 0,.int .i64 0] (n*3)).toList=(List.replicate n ((0:Int),(0:Int),(0:Int))).flatMap EPt.cells:=by
 have e:(madeCells #[.int .i64 0,.int .i64 0,.int .i64 0] (n*3))=madeCells #[Value.int .i64 0] (n*3):=by
  unfold madeCells
  congr 1
  funext i
  have:i % 3=0∨i % 3=1∨i % 3=2:=by omega
  rcases this with h | h | h <;> simp [h,Nat.mod_one]
 rw [e,toList_madeCells_one]
 clear e
 induction n with
 | zero=>rfl
 | succ n ih=>
 rw [List.replicate_succ,List.flatMap_cons,←ih,show (n+1)*3=n*3+1+1+1 by omega,List.replicate_succ,List.replicate_succ,List.replicate_succ]
 rfl
theorem pt {xs:List Pt} {n j:Nat} {x:Pt} (hn:n=xs.length) (h:xs[j]?=some x):xs.take (j+1) ++ List.replicate (n - (j+1)) ((0:Int),(0:Int),(0:Int))=(xs.take j ++ List.replicate (n - j) ((0:Int),(0:Int),(0:Int))).set j x:=by
 have hj:=(List.getElem?_eq_some_iff.1 h).1
 rw [List.set_append_right _ _ (by rw [List.length_take];omega),List.length_take,show j - min j xs.length=0 by omega,show n - j=(n - (j+1))+1 by omega,List.replicate_succ,List.set_cons_zero,List.take_add_one,h]
 simp
theorem oX (v:Value) (xs:List Pt) (w:World) (hx:cJ w v xs) (hn:xs.length≤1048576) :
  Calls Tryz.prog 11 #[v] w fun e w'=>∃ v',e=.returned v'∧Rw.Own EPt w' w.heap.size v' xs∧Below w.heap.size w w':=by
 obtain ⟨A,cap,rfl,hm,hv⟩:=hx
 have Hv:=ws hv
 clear hv
 obtain ⟨i0,hi,hz0,hz1,hz2⟩:=info_parts vP
 obtain ⟨w1,hrun,hown1,hg1⟩:=run_make_full (P:=Tryz.prog) w w.heap.size 31 57 i0 (.agg #[.int .i64 0,.int .i64 0,.int .i64 0]) 3 Tryz.underlying31 hi hz0 hz1 .i64 .i64 xs.length (by rw [hz2];omega) (by unfold maxLen;omega) (xA _)
 go_enter Tryz.func11,Tryz.ntmps11
 go_wp2
 have hown1:Rw.Own EPt w1 w.heap.size (.slice (some ⟨w.heap.size,0,none⟩) xs.length xs.length) (List.replicate xs.length ((0:Int),(0:Int),(0:Int))):=by
  unfold Rw.Own
  rw [←nu,List.length_replicate]
  exact hown1
 have hb1:Below w.heap.size w w1:=cX hg1 (xA _) (fun k hk=>by cases hk)
 go_loopw [4] (fun vi wr=>∃ j:Nat,j≤xs.length∧vi=.int .i64 j∧Rw.Own EPt wr w.heap.size (.slice (some ⟨w.heap.size,0,none⟩) xs.length xs.length) (xs.take j ++ List.replicate (xs.length - j) ((0:Int),(0:Int),(0:Int)))∧Below w.heap.size w wr) (fun vi _=>xs.length - (intOf vi).toNat)
 case atStart=>exact ⟨0,by omega,rfl,by simpa using hown1,hb1⟩
 case round=>
 obtain ⟨j,hj,rfl,hown,hbr⟩:=hrel
 have hlen:(xs.take j ++ List.replicate (xs.length - j) ((0:Int),(0:Int),(0:Int))).length=xs.length:=by rw [List.length_append,List.length_take,List.length_replicate];omega
 by_cases hlt:j<xs.length
 ·obtain ⟨g,o,x,rfl,hg,hx,h0,h1,h2⟩:=Hv.out j hlt
  have e0:=(hbr.cell (p:=⟨g,o+j*3,none⟩) hg).trans h0
  have e1:=(hbr.cell (p:=⟨g,o+j*3+1,none⟩) hg).trans h1
  have e2:=(hbr.cell (p:=⟨g,o+j*3+2,none⟩) hg).trans h2
  have hj0:(xs.take j ++ List.replicate (xs.length - j) ((0:Int),(0:Int),(0:Int)))[j]?=some (0,0,0):=by
   rw [List.getElem?_append_right (by rw [List.length_take];omega),List.length_take,show j - min j xs.length=0 by omega,List.getElem?_replicate]
   rw [if_pos (by omega)]
  have hzr:=hbr.size
  go_wp2_with fail
  refine (qp x.1 x.2.1 x.2.2 _).mono ?_;rintro e w2 ⟨rfl,hb2⟩
  have hown2:=hown.below hb2
  obtain ⟨c0,c1,c2,f0,f1,f2⟩:=vH hlen.symm hown2 hj0
  have hst:=ws (wg hlen.symm hown2 hlt x (pt rfl hx.out))
  clear hlen hj0 h0 h1 h2
  go_wp2
  go_roundw
  case rel=>exact ⟨j+1,by omega,by go_num,hst.out.1,((hbr.trans (hb2.mono hzr)).grown hst.out.2 (by have:=hb2.size;omega) (fun q hq=>by cases hq;exact xA _))⟩
  case measure=>simp [intOf] <;> omega
 obtain rfl:j=xs.length:=by omega
 clear hlen
 go_wp2
 go_ret
 exact ⟨_,rfl,by simpa using hown,hbr⟩
end
end Go.Proofs.YtgfkcoablfjbcaaGreat
