/-
  Joined texts: contracts and plain lemmas.
-/
import Derived.Test.YtgfkcoablfjbcaaGreatB1
import Derived.Test.YtgfkcoablfjbcaaGreatB26
import Derived.Test.YtgfkcoablfjbcaaGreatB25
set_option linter.unusedSimpArgs false
set_option linter.unusedVariables false
set_option maxRecDepth 100000
set_option maxHeartbeats 8000000
namespace Go.Proofs.YtgfkcoablfjbcaaGreat
section
open Go.RowKit
namespace M
noncomputable def ivM (m:Mat):IvM:=m.map fun r=>r.map fun q=>ivc (some q)
theorem qW (m:Mat) (c:Nat):fa (ivM m) c=ivM (cL m c):=by
 unfold fa ivM cL
 rw [←List.map_tail,List.map_map,List.map_map]
 refine List.map_congr_left fun r _=>?_
 simp only [Function.comp,List.map_append,List.map_take,List.map_drop]
theorem vg {m:Mat} {i:Nat} {r:List (Int × Int)} (h:m[i]?=some r):(ivM m)[i]?=some (r.map fun q=>ivc (some q)):=by
 unfold ivM
 rw [List.getElem?_map,h]
 rfl
theorem uL (m:Mat):(ivM m).length=m.length:=by unfold ivM;rw [List.length_map]
theorem vj {n:Nat} {m:Mat} (h:square n m):∀ r ∈ ivM m,r.length=n:=fun r hr=>by
 unfold ivM at hr
 obtain ⟨s,hs,rfl⟩:=List.mem_map.1 hr
 rw [List.length_map]
 exact h.2 s hs
theorem rm {n:Nat} {m:Mat} {c:Nat} (hsq:square (n+2) m) (hc:c<n+2) (h:da n m (c+1)=none):cf (n+2) m=none:=by
 have hl:(m.headD []).length=n+2:=by
  cases m with
  | nil=>have:=hsq.1;simp only [List.length_nil] at this;omega
  | cons r m=>exact hsq.2 r (List.mem_cons_self ..)
 rw [io,hl]
 exact kd h _ (by omega)
theorem ro {n:Nat} {m:Mat} (hsq:square (n+2) m):cf (n+2) m=da n m (n+2):=by
 have hl:(m.headD []).length=n+2:=by
  cases m with
  | nil=>have:=hsq.1;simp only [List.length_nil] at this;omega
  | cons r m=>exact hsq.2 r (List.mem_cons_self ..)
 rw [io,hl]
theorem uH:in1 (some (0,0))=0∧in2 (some (0,0))=1∧in3 (some (0,0))=0∧in4 (some (0,0))=1:=by
 obtain ⟨k1,k2⟩:=tE (n:=0) (by decide) (by decide)
 exact ⟨k1,k2,k1,k2⟩
theorem iu:in1 none=0∧in2 none=0∧in3 none=0∧in4 none=0∧(none:Sp).isSome=false:=⟨rfl,rfl,rfl,rfl,rfl⟩
end M
theorem uK (n:Nat):∀ (m:M.Mat) (v:Value) (base:Nat) (w:World),n≤3→M.square (n+1) m→M.okM m→dT w base v (M.ivM m)→
  Calls Tryz.prog 53 #[v] w fun e w'=>e=.returned (.tuple #[.agg #[.int .i64 (M.in1 (M.cf (n+1) m)),.int .i64 (M.in2 (M.cf (n+1) m)),.int .i64 (M.in3 (M.cf (n+1) m)),.int .i64 (M.in4 (M.cf (n+1) m))],.bool (M.cf (n+1) m).isSome])∧Below w.heap.size w w':=by
 induction n with
 | zero=>
  intro m v base w hn hsq hok hm
  obtain ⟨q,rfl⟩:∃ q,m=[[q]]:=by
   obtain ⟨h1,h2⟩:=hsq
   obtain ⟨r,rfl⟩:=List.length_eq_one_iff.1 h1
   obtain ⟨q,rfl⟩:=List.length_eq_one_iff.1 (h2 r (List.mem_cons_self ..))
   exact ⟨q,rfl⟩
  have hd:M.cf (0+1) [[q]]=some q:=rfl
  rw [hd]
  obtain ⟨gm,cap,g2,cap2,rfl,k0,k1,k2,k3,k4⟩:=hm.at (i:=0) (j:=0) (q:=M.ivc (some q)) (r:=[M.ivc (some q)]) rfl rfl
  have hl:(M.ivM [[q]]).length=1:=rfl
  simp only [Nat.zero_mul,Nat.zero_add,List.length_cons,List.length_nil,hl,M.ivc] at k0 k1 k2 k3 k4 ⊢
  clear hd hl hok hsq hm
  have e5:(some q:M.Sp).isSome=true:=rfl
  rw [e5]
  clear e5
  generalize M.in1 (some q)=q1 at *
  generalize M.in2 (some q)=q2 at *
  generalize M.in3 (some q)=q3 at *
  generalize M.in4 (some q)=q4 at *
  obtain ⟨wc,hw3,R,B⟩:=iX w #[.int .i64 0,.int .i64 0,.int .i64 0,.int .i64 0] 64
  replace k0:=aE B k0
  replace k1:=aE B k1
  replace k2:=aE B k2
  replace k3:=aE B k3
  replace k4:=aE B k4
  have ⟨r0,r1,r2,r3,z0,z1,z2,z3,rl⟩:=R.aN
  go_enter Tryz.func53,Tryz.ntmps53
  go_wp2
  exact bodyPost_ret (v:=.tuple #[.agg #[.int .i64 q1,.int .i64 q2,.int .i64 q3,.int .i64 q4],.bool true]) (by simp [results,Tryz.results53,go_sem, *]) rfl (⟨rfl,xN (xN (xN (xN B (xP _) _) (xP _) _) (xP _) _) (xP _) _⟩)
 | succ n ih=>
 intro m v base w hn hsq hok hm
 obtain ⟨vs,hm⟩:=hm
 have hml:m.length=n+2:=hsq.1
 have hmlN:(M.ivM m).length=n+2:=by rw [M.uL];exact hml
 obtain ⟨r0,hr0⟩:∃ r,m[0]?=some r:=⟨_,List.getElem?_eq_getElem (by omega)⟩
 have hr0l:r0.length=n+2:=hsq.2 r0 (List.mem_of_getElem? hr0)
 have hhd:m.headD []=r0:=by
  cases m with
  | nil=>cases hr0
  | cons x m=>exact Option.some.inj hr0
 obtain ⟨rN,hrN⟩:∃ x,x=r0.map fun q=>M.ivc (some q):=⟨_,rfl⟩
 have hr0N:(M.ivM m)[0]?=some rN:=by rw [hrN];exact M.vg hr0
 have hrNl:rN.length=n+2:=by rw [hrN,List.length_map];exact hr0l
 obtain ⟨gm,capm,rfl,hcm,hcm2,hgm⟩:=hm.form (fun h=>by rw [h] at hmlN;simp only [List.length_nil] at hmlN;omega)
 obtain ⟨g0,cap0,hv0,hc0,hg0⟩:=hm.rowIs hr0N (fun h=>by rw [h] at hrNl;simp only [List.length_nil] at hrNl;omega)
 rw [hrNl] at hv0 hc0
 rw [hmlN] at hm hcm ⊢
 have kr0:=hm.ge hv0
 have PMn:=xL (fun c (hc:c<n+2) W h=>qO n c (M.ivM m) (.slice (some ⟨gm,0,none⟩) (n+2) capm) base W (by omega) hmlN (M.vj hsq) hc h)
 have hnone:=xL (fun c (hc:c<n+2) h=>M.rm (n:=n) (m:=m) (c:=c) hsq hc h)
 have hsome:=xL (M.ro (n:=n) (m:=m) hsq)
 have hsq:=xL hsq
 have hrN:=xL hrN
 have hr0:=xL hr0
 have hr0N:=xL hr0N
 have hr0l:=xL hr0l
 have hml:=xL hml
 have hhd:=xL hhd
 have hok:=xL hok
 have hm:=xL hm
 have hv0:=xL hv0
 have ih:=xL ih
 clear hmlN hrNl
 have PI:=xL fun W=>uA 0 W
 obtain ⟨wc,hw3,R,B⟩:=iX w #[.int .i64 0,.int .i64 0,.int .i64 0,.int .i64 0] 64
 replace kr0:=aE B kr0
 have hn1:(n:Int)≤2:=by omega
 have hne1:((n:Int)+2 == 1)=false:=by rw [beq_eq_false_iff_ne];omega
 go_enter Tryz.func53,Tryz.ntmps53
 go_wp2_with (go_at_call 68;(with_reducible refine (PI.out _).mono ?_);rintro e w5 ⟨rfl,hb5⟩;(replace B:=B.trans (hb5.mono B.size));(replace R:=R.keep hb5);(replace kr0:=aE hb5 kr0);(have kr1:=aE ((xO _ w5).alloc (xP _) (.cells #[.int .i64 0,.int .i64 1,.int .i64 0,.int .i64 1] 64)) kr0))
 have S:=aH.new w5 #[.int .i64 0,.int .i64 1,.int .i64 0,.int .i64 1] 64
 have hrl:=R.lt
 replace R:=R.alloc (.cells #[.int .i64 0,.int .i64 1,.int .i64 0,.int .i64 1] 64)
 replace B:=B.alloc B.size (.cells #[.int .i64 0,.int .i64 1,.int .i64 0,.int .i64 1] 64)
 have hsl:=S.lt
 have nSR:w5.heap.size≠w.heap.size:=by omega
 have nRS:w.heap.size≠w5.heap.size:=by omega
 have hsb:w.heap.size≤w5.heap.size:=by omega
 go_loopw [28] (fun vc wq=>∃ (c:Nat) (s:Int × Int),c≤n+2∧vc=.int .i64 (c:Int)∧Hid (M.da n m c=some s)∧aH wq w5.heap.size 64 #[.int .i64 (M.in1 (some s)),.int .i64 (M.in2 (some s)),.int .i64 (M.in3 (some s)),.int .i64 (M.in4 (some s))]∧aH wq w.heap.size 64 #[.int .i64 0,.int .i64 0,.int .i64 0,.int .i64 0]∧w5.heap.size+1≤wq.heap.size∧Below w.heap.size w wq) (fun vc _=>n+2 - (intOf vc).toNat)
 case atStart=>
  obtain ⟨e1,e2,e3,e4⟩:=M.uH
  exact ⟨0,(0,0),Nat.zero_le _,rfl,xL rfl,by rw [e1,e2,e3,e4];exact S,R,hsl,B⟩
 case round=>
 clear S R B kr0 hrl hsl
 generalize w5.heap.size=sb at *
 obtain ⟨c,s,hc,rfl,hs,S,R,hwz,B⟩:=hrel
 generalize hwo:wr=wo at *
 clear hwo
 by_cases hlt:c<n+2
 ·obtain ⟨q,hq⟩:∃ q,r0[c]?=some q:=⟨_,List.getElem?_eq_getElem (by have:=hr0l.out;omega)⟩
  have hqs:M.aM q.1 q.2=true:=hok.out r0 (List.mem_of_getElem? hr0.out) _ (List.mem_of_getElem? hq)
  have hqN:rN[c]?=some (M.ivc (some q)):=by rw [hrN.out,List.getElem?_map,hq];rfl
  have hmq:=xL (hm.out.below B)
  obtain ⟨d0,d1,d2,d3⟩:=(hmq.out.rowFrom hv0.out hr0N.out).at4 hqN
  simp only [M.ivc] at d0 d1 d2 d3
  have hss:M.aM s.1 s.2=true:=M.lP (n:=n) (m:=m) c s hs.out
  have hsq1:=M.gl hsq.out hlt
  have hok1:=M.kX (c:=c) hok.out
  have PD:=fun vo b W h=>ih.out (M.cL m c) vo b W (by omega) hsq1 hok1 h
  have PN:=PMn.out c hlt
  rw [M.qW] at PN
  have hdo:=M.ix hok1 (n+1)
  have hnx:=M.f5 n m c
  rw [hs.out,hhd.out,hq] at hnx
  have hno:=hnone.out c hlt
  obtain ⟨mm,hmm⟩:∃ x,x=M.cL m c:=⟨_,rfl⟩
  obtain ⟨dd,hdd⟩:∃ x,x=M.cf (n+1) (M.cL m c):=⟨_,rfl⟩
  rw [←hdd] at PD hnx hdo
  rw [←hmm] at PD PN
  clear hmm hdd hsq1 hok1 hq hqN
  have hnx:=xL hnx
  have hno:=xL hno
  have Bv:=(xO wo.heap.size wo).alloc (xP _) (.cells #[.int .i64 (M.in1 (some q)),.int .i64 (M.in2 (some q)),.int .i64 (M.in3 (some q)),.int .i64 (M.in4 (some q))] 64)
  have X:=aH.new wo #[.int .i64 (M.in1 (some q)),.int .i64 (M.in2 (some q)),.int .i64 (M.in3 (some q)),.int .i64 (M.in4 (some q))] 64
  replace B:=B.trans (Bv.mono B.size)
  replace S:=S.keep Bv
  replace R:=R.keep Bv
  have hmq:=xL (hmq.out.below Bv)
  generalize hw2:wo.alloc (.cells #[.int .i64 (M.in1 (some q)),.int .i64 (M.in2 (some q)),.int .i64 (M.in3 (some q)),.int .i64 (M.in4 (some q))] 64)=wb at *
  clear Bv
  have hwz2:sb+1≤wb.heap.size:=by have:=S.lt;omega
  have hmw:=xL (show dT wb base (.slice (some ⟨gm,0,none⟩) (n+2) capm) (M.ivM m) from ⟨vs,hmq.out⟩)
  cases dd with
  | none=>
   have hfin:M.cf (n+1+1) m=none:=hno.out (by rw [hnx.out];exact M.eK _ _)
   have hfin:=xL hfin
   have e9:=xL M.iu
   rw [e9.out.1,e9.out.2.1,e9.out.2.2.1,e9.out.2.2.2.1,e9.out.2.2.2.2] at PD
   clear e9
   generalize M.in1 (some q)=q1 at *
   generalize M.in2 (some q)=q2 at *
   generalize M.in3 (some q)=q3 at *
   generalize M.in4 (some q)=q4 at *
   replace PD:=xL PD
   replace PN:=xL PN
   clear hno hnx hnone hsome ih
   go_wp2_with first | (go_at_call 69;(with_reducible refine (PN.out _ hmw.out).mono ?_);rintro e w4 ⟨vo,rfl,hM4,hb4⟩;(replace B:=B.trans (hb4.mono B.size));(replace X:=X.keep hb4);(replace S:=S.keep hb4);(replace R:=R.keep hb4)) | (go_at_call 53;(with_reducible refine (PD.out _ _ _ hM4).mono ?_);rintro e w6 ⟨rfl,hb6⟩;(replace B:=(B.trans (hb6.mono B.size)).alloc (Nat.le_trans B.size hb6.size) (.cells #[.int .i64 0,.int .i64 0,.int .i64 0,.int .i64 0] 64));(replace X:=(X.keep hb6).alloc (.cells #[.int .i64 0,.int .i64 0,.int .i64 0,.int .i64 0] 64));(replace S:=(S.keep hb6).alloc (.cells #[.int .i64 0,.int .i64 0,.int .i64 0,.int .i64 0] 64));(replace R:=(R.keep hb6).alloc (.cells #[.int .i64 0,.int .i64 0,.int .i64 0,.int .i64 0] 64));(have Y:=aH.new w6 #[.int .i64 0,.int .i64 0,.int .i64 0,.int .i64 0] 64);(have ⟨ky0,ky1,ky2,ky3,_,_,_,_,_⟩:=Y.aN);(have ⟨kx0,kx1,kx2,kx3,_,_,_,_,_⟩:=X.aN);(have ⟨r0,r1,r2,r3,z0,z1,z2,z3,rl⟩:=R.aN))
   exact bodyPost_ret (v:=.tuple #[.agg #[.int .i64 0,.int .i64 0,.int .i64 0,.int .i64 0],.bool false]) (by simp [results,Tryz.results53,go_sem, *]) rfl (⟨by rw [hfin.out];rfl,xN (xN (xN (xN B (xP _) _) (xP _) _) (xP _) _) (xP _) _⟩)
  | some d=>
  have hds:M.aM d.1 d.2=true:=hdo d rfl
  have PX:=fun W=>si q d W hqs hds
  have e5:(some d:M.Sp).isSome=true:=rfl
  rw [e5] at PD
  clear e5
  obtain ⟨pp,hpp⟩:∃ x,x=M.ej (some q) (some d):=⟨_,rfl⟩
  have hpo:M.okS pp:=by rw [hpp];exact M.pa
  have hnx2:=hnx.out
  rw [←hpp] at hnx2 PX
  replace hnx:=xL hnx2
  clear hnx2 hpp
  generalize M.in1 (some q)=q1 at *
  generalize M.in2 (some q)=q2 at *
  generalize M.in3 (some q)=q3 at *
  generalize M.in4 (some q)=q4 at *
  generalize M.in1 (some d)=d1 at *
  generalize M.in2 (some d)=d2 at *
  generalize M.in3 (some d)=d3 at *
  generalize M.in4 (some d)=d4 at *
  replace PD:=xL PD
  replace PN:=xL PN
  cases pp with
  | none=>
   have hfin:M.cf (n+1+1) m=none:=hno.out (by rw [hnx.out];exact M.eK _ _)
   have hfin:=xL hfin
   have e9:=xL M.iu
   rw [e9.out.1,e9.out.2.1,e9.out.2.2.1,e9.out.2.2.2.1,e9.out.2.2.2.2] at PX
   clear e9
   replace PX:=xL PX
   clear hno hnx hnone hsome ih
   go_wp2_with first | (go_at_call 69;(with_reducible refine (PN.out _ hmw.out).mono ?_);rintro e w4 ⟨vo,rfl,hM4,hb4⟩;(replace B:=B.trans (hb4.mono B.size));(replace X:=X.keep hb4);(replace S:=S.keep hb4);(replace R:=R.keep hb4)) | (go_at_call 53;(with_reducible refine (PD.out _ _ _ hM4).mono ?_);rintro e w6 ⟨rfl,hb6⟩;(replace B:=(B.trans (hb6.mono B.size)).alloc (Nat.le_trans B.size hb6.size) (.cells #[.int .i64 d1,.int .i64 d2,.int .i64 d3,.int .i64 d4] 64));(replace X:=(X.keep hb6).alloc (.cells #[.int .i64 d1,.int .i64 d2,.int .i64 d3,.int .i64 d4] 64));(replace S:=(S.keep hb6).alloc (.cells #[.int .i64 d1,.int .i64 d2,.int .i64 d3,.int .i64 d4] 64));(replace R:=(R.keep hb6).alloc (.cells #[.int .i64 d1,.int .i64 d2,.int .i64 d3,.int .i64 d4] 64));(have Y:=aH.new w6 #[.int .i64 d1,.int .i64 d2,.int .i64 d3,.int .i64 d4] 64);(have ⟨ky0,ky1,ky2,ky3,_,_,_,_,_⟩:=Y.aN);(have ⟨kx0,kx1,kx2,kx3,_,_,_,_,_⟩:=X.aN);(have ⟨r0,r1,r2,r3,z0,z1,z2,z3,rl⟩:=R.aN)) | (go_at_call 70;(with_reducible refine (PX.out _).mono ?_);rintro e w7 ⟨rfl,hb7⟩;(replace B:=(B.trans (hb7.mono B.size)).alloc (Nat.le_trans B.size hb7.size) (.cells #[.int .i64 0,.int .i64 0,.int .i64 0,.int .i64 0] 64));(replace S:=(S.keep hb7).alloc (.cells #[.int .i64 0,.int .i64 0,.int .i64 0,.int .i64 0] 64));(replace R:=(R.keep hb7).alloc (.cells #[.int .i64 0,.int .i64 0,.int .i64 0,.int .i64 0] 64));(have Z:=aH.new w7 #[.int .i64 0,.int .i64 0,.int .i64 0,.int .i64 0] 64);(have ⟨ka0,ka1,ka2,ka3,_,_,_,_,_⟩:=Z.aN);(have ⟨ks0,ks1,ks2,ks3,_,_,_,_,_⟩:=S.aN);(have ⟨r0,r1,r2,r3,z0,z1,z2,z3,rl⟩:=R.aN))
   exact bodyPost_ret (v:=.tuple #[.agg #[.int .i64 0,.int .i64 0,.int .i64 0,.int .i64 0],.bool false]) (by simp [results,Tryz.results53,go_sem, *]) rfl (⟨by rw [hfin.out];rfl,xN (xN (xN (xN B (xP _) _) (xP _) _) (xP _) _) (xP _) _⟩)
  | some p=>
  have hps:M.aM p.1 p.2=true:=hpo p rfl
  have e5:(some p:M.Sp).isSome=true:=rfl
  rw [e5] at PX
  clear e5
  have PA:=fun W=>mc s p W hss hps
  have PS:=fun W=>me s p W hss hps
  have hst:M.dn (some s) (some p) c=if c % 2=0 then M.eS (some s) (some p) else M.cW (some s) (some p):=rfl
  have hnx2:=hnx.out
  rw [hst] at hnx2
  clear hst hnx hss hps hpo hds hdo hqs
  obtain ⟨ad,had⟩:∃ x,x=M.eS (some s) (some p):=⟨_,rfl⟩
  obtain ⟨su,hsu⟩:∃ x,x=M.cW (some s) (some p):=⟨_,rfl⟩
  rw [←had,←hsu] at hnx2
  rw [←had] at PA
  rw [←hsu] at PS
  clear had hsu
  generalize M.in1 (some p)=p1 at *
  generalize M.in2 (some p)=p2 at *
  generalize M.in3 (some p)=p3 at *
  generalize M.in4 (some p)=p4 at *
  generalize M.in1 (some s)=s1 at *
  generalize M.in2 (some s)=s2 at *
  generalize M.in3 (some s)=s3 at *
  generalize M.in4 (some s)=s4 at *
  replace PX:=xL PX
  have ht:Int.tmod ((c:Nat):Int) 2=((c % 2:Nat):Int):=(Int.ofNat_tmod c 2).symm
  rcases Nat.mod_two_eq_zero_or_one c with hp | hp
  ·rw [hp] at ht
   rw [if_pos hp] at hnx2
   clear PS
   cases ad with
   | none=>
    have hfin:M.cf (n+1+1) m=none:=hno.out hnx2
    have hfin:=xL hfin
    have e9:=xL M.iu
    rw [e9.out.1,e9.out.2.1,e9.out.2.2.1,e9.out.2.2.2.1,e9.out.2.2.2.2] at PA
    clear e9
    replace PA:=xL PA
    clear hno hnx2 hnone hsome ih hs
    go_wp2_with first | (go_at_call 69;(with_reducible refine (PN.out _ hmw.out).mono ?_);rintro e w4 ⟨vo,rfl,hM4,hb4⟩;(replace B:=B.trans (hb4.mono B.size));(replace X:=X.keep hb4);(replace S:=S.keep hb4);(replace R:=R.keep hb4)) | (go_at_call 53;(with_reducible refine (PD.out _ _ _ hM4).mono ?_);rintro e w6 ⟨rfl,hb6⟩;(replace B:=(B.trans (hb6.mono B.size)).alloc (Nat.le_trans B.size hb6.size) (.cells #[.int .i64 d1,.int .i64 d2,.int .i64 d3,.int .i64 d4] 64));(replace X:=(X.keep hb6).alloc (.cells #[.int .i64 d1,.int .i64 d2,.int .i64 d3,.int .i64 d4] 64));(replace S:=(S.keep hb6).alloc (.cells #[.int .i64 d1,.int .i64 d2,.int .i64 d3,.int .i64 d4] 64));(replace R:=(R.keep hb6).alloc (.cells #[.int .i64 d1,.int .i64 d2,.int .i64 d3,.int .i64 d4] 64));(have Y:=aH.new w6 #[.int .i64 d1,.int .i64 d2,.int .i64 d3,.int .i64 d4] 64);(have ⟨ky0,ky1,ky2,ky3,_,_,_,_,_⟩:=Y.aN);(have ⟨kx0,kx1,kx2,kx3,_,_,_,_,_⟩:=X.aN);(have ⟨r0,r1,r2,r3,z0,z1,z2,z3,rl⟩:=R.aN)) | (go_at_call 70;(with_reducible refine (PX.out _).mono ?_);rintro e w7 ⟨rfl,hb7⟩;(replace B:=(B.trans (hb7.mono B.size)).alloc (Nat.le_trans B.size hb7.size) (.cells #[.int .i64 p1,.int .i64 p2,.int .i64 p3,.int .i64 p4] 64));(replace S:=(S.keep hb7).alloc (.cells #[.int .i64 p1,.int .i64 p2,.int .i64 p3,.int .i64 p4] 64));(replace R:=(R.keep hb7).alloc (.cells #[.int .i64 p1,.int .i64 p2,.int .i64 p3,.int .i64 p4] 64));(have Z:=aH.new w7 #[.int .i64 p1,.int .i64 p2,.int .i64 p3,.int .i64 p4] 64);(have ⟨ka0,ka1,ka2,ka3,_,_,_,_,_⟩:=Z.aN);(have ⟨ks0,ks1,ks2,ks3,_,_,_,_,_⟩:=S.aN);(have ⟨r0,r1,r2,r3,z0,z1,z2,z3,rl⟩:=R.aN)) | (go_at_call 71;(with_reducible refine (PA.out _).mono ?_);rintro e w8 ⟨rfl,hb8⟩;(have hs8:=xL (S.keep hb8).lt);(have hr8:=xL (R.keep hb8).lt);(replace B:=(B.trans (hb8.mono B.size)).alloc (Nat.le_trans B.size hb8.size) (.cells #[.int .i64 0,.int .i64 0,.int .i64 0,.int .i64 0] 64));(replace S:=(S.keep hb8).alloc (.cells #[.int .i64 0,.int .i64 0,.int .i64 0,.int .i64 0] 64));(replace R:=(R.keep hb8).alloc (.cells #[.int .i64 0,.int .i64 0,.int .i64 0,.int .i64 0] 64));(replace Z:=(Z.keep hb8).alloc (.cells #[.int .i64 0,.int .i64 0,.int .i64 0,.int .i64 0] 64));(have N:=aH.new w8 #[.int .i64 0,.int .i64 0,.int .i64 0,.int .i64 0] 64);(have ⟨kn0,kn1,kn2,kn3,nz0,nz1,nz2,nz3,nl⟩:=N.aN);(have ⟨ka0,ka1,ka2,ka3,_,_,_,_,_⟩:=Z.aN);(have ⟨ks0,ks1,ks2,ks3,sz0,sz1,sz2,sz3,sl⟩:=S.aN);(have ⟨r0,r1,r2,r3,z0,z1,z2,z3,rl⟩:=R.aN))
    exact bodyPost_ret (v:=.tuple #[.agg #[.int .i64 0,.int .i64 0,.int .i64 0,.int .i64 0],.bool false]) (by simp [results,Tryz.results53,go_sem, *]) rfl (⟨by rw [hfin.out];rfl,xN (xN (xN (xN B (xP _) _) (xP _) _) (xP _) _) (xP _) _⟩)
   | some sx=>
   have hnx:=xL hnx2
   have e5:(some sx:M.Sp).isSome=true:=rfl
   rw [e5] at PA
   clear e5 hnx2
   obtain ⟨x1,hx1⟩:∃ x,x=M.in1 (some sx):=⟨_,rfl⟩
   obtain ⟨x2,hx2⟩:∃ x,x=M.in2 (some sx):=⟨_,rfl⟩
   obtain ⟨x3,hx3⟩:∃ x,x=M.in3 (some sx):=⟨_,rfl⟩
   obtain ⟨x4,hx4⟩:∃ x,x=M.in4 (some sx):=⟨_,rfl⟩
   rw [←hx1,←hx2,←hx3,←hx4] at PA
   replace hx1:=xL hx1
   replace hx2:=xL hx2
   replace hx3:=xL hx3
   replace hx4:=xL hx4
   replace PA:=xL PA
   go_wp2_with first | (go_at_call 69;(with_reducible refine (PN.out _ hmw.out).mono ?_);rintro e w4 ⟨vo,rfl,hM4,hb4⟩;(replace B:=B.trans (hb4.mono B.size));(replace X:=X.keep hb4);(replace S:=S.keep hb4);(replace R:=R.keep hb4)) | (go_at_call 53;(with_reducible refine (PD.out _ _ _ hM4).mono ?_);rintro e w6 ⟨rfl,hb6⟩;(replace B:=(B.trans (hb6.mono B.size)).alloc (Nat.le_trans B.size hb6.size) (.cells #[.int .i64 d1,.int .i64 d2,.int .i64 d3,.int .i64 d4] 64));(replace X:=(X.keep hb6).alloc (.cells #[.int .i64 d1,.int .i64 d2,.int .i64 d3,.int .i64 d4] 64));(replace S:=(S.keep hb6).alloc (.cells #[.int .i64 d1,.int .i64 d2,.int .i64 d3,.int .i64 d4] 64));(replace R:=(R.keep hb6).alloc (.cells #[.int .i64 d1,.int .i64 d2,.int .i64 d3,.int .i64 d4] 64));(have Y:=aH.new w6 #[.int .i64 d1,.int .i64 d2,.int .i64 d3,.int .i64 d4] 64);(have ⟨ky0,ky1,ky2,ky3,_,_,_,_,_⟩:=Y.aN);(have ⟨kx0,kx1,kx2,kx3,_,_,_,_,_⟩:=X.aN);(have ⟨r0,r1,r2,r3,z0,z1,z2,z3,rl⟩:=R.aN)) | (go_at_call 70;(with_reducible refine (PX.out _).mono ?_);rintro e w7 ⟨rfl,hb7⟩;(replace B:=(B.trans (hb7.mono B.size)).alloc (Nat.le_trans B.size hb7.size) (.cells #[.int .i64 p1,.int .i64 p2,.int .i64 p3,.int .i64 p4] 64));(replace S:=(S.keep hb7).alloc (.cells #[.int .i64 p1,.int .i64 p2,.int .i64 p3,.int .i64 p4] 64));(replace R:=(R.keep hb7).alloc (.cells #[.int .i64 p1,.int .i64 p2,.int .i64 p3,.int .i64 p4] 64));(have Z:=aH.new w7 #[.int .i64 p1,.int .i64 p2,.int .i64 p3,.int .i64 p4] 64);(have ⟨ka0,ka1,ka2,ka3,_,_,_,_,_⟩:=Z.aN);(have ⟨ks0,ks1,ks2,ks3,_,_,_,_,_⟩:=S.aN);(have ⟨r0,r1,r2,r3,z0,z1,z2,z3,rl⟩:=R.aN)) | (go_at_call 71;(with_reducible refine (PA.out _).mono ?_);rintro e w8 ⟨rfl,hb8⟩;(have hs8:=xL (S.keep hb8).lt);(have hr8:=xL (R.keep hb8).lt);(replace B:=(B.trans (hb8.mono B.size)).alloc (Nat.le_trans B.size hb8.size) (.cells #[.int .i64 x1,.int .i64 x2,.int .i64 x3,.int .i64 x4] 64));(replace S:=(S.keep hb8).alloc (.cells #[.int .i64 x1,.int .i64 x2,.int .i64 x3,.int .i64 x4] 64));(replace R:=(R.keep hb8).alloc (.cells #[.int .i64 x1,.int .i64 x2,.int .i64 x3,.int .i64 x4] 64));(replace Z:=(Z.keep hb8).alloc (.cells #[.int .i64 x1,.int .i64 x2,.int .i64 x3,.int .i64 x4] 64));(have N:=aH.new w8 #[.int .i64 x1,.int .i64 x2,.int .i64 x3,.int .i64 x4] 64);(have ⟨kn0,kn1,kn2,kn3,nz0,nz1,nz2,nz3,nl⟩:=N.aN);(have ⟨ka0,ka1,ka2,ka3,_,_,_,_,_⟩:=Z.aN);(have ⟨ks0,ks1,ks2,ks3,sz0,sz1,sz2,sz3,sl⟩:=S.aN);(have ⟨r0,r1,r2,r3,z0,z1,z2,z3,rl⟩:=R.aN))
   go_roundw
   case rel=>exact ⟨c+1,sx,by omega,by go_num,hnx,by rw [←hx1.out,←hx2.out,←hx3.out,←hx4.out];exact aH.kG S _ _ _ _,R.fd nRS _ _ _ _,by rw [aY,aY,aY,aY];omega,xN (xN (xN (xN B hsb _) hsb _) hsb _) hsb _⟩
   case measure=>simp [intOf] <;> omega
  rw [hp] at ht
  rw [if_neg (by omega)] at hnx2
  generalize M.in1 ad=v1 at *
  generalize M.in2 ad=v2 at *
  generalize M.in3 ad=v3 at *
  generalize M.in4 ad=v4 at *
  generalize ad.isSome=fv at *
  replace PA:=xL PA
  cases su with
  | none=>
   have hfin:M.cf (n+1+1) m=none:=hno.out hnx2
   have hfin:=xL hfin
   have e9:=xL M.iu
   rw [e9.out.1,e9.out.2.1,e9.out.2.2.1,e9.out.2.2.2.1,e9.out.2.2.2.2] at PS
   clear e9
   replace PS:=xL PS
   clear hno hnx2 hnone hsome ih hs
   go_wp2_with first | (go_at_call 69;(with_reducible refine (PN.out _ hmw.out).mono ?_);rintro e w4 ⟨vo,rfl,hM4,hb4⟩;(replace B:=B.trans (hb4.mono B.size));(replace X:=X.keep hb4);(replace S:=S.keep hb4);(replace R:=R.keep hb4)) | (go_at_call 53;(with_reducible refine (PD.out _ _ _ hM4).mono ?_);rintro e w6 ⟨rfl,hb6⟩;(replace B:=(B.trans (hb6.mono B.size)).alloc (Nat.le_trans B.size hb6.size) (.cells #[.int .i64 d1,.int .i64 d2,.int .i64 d3,.int .i64 d4] 64));(replace X:=(X.keep hb6).alloc (.cells #[.int .i64 d1,.int .i64 d2,.int .i64 d3,.int .i64 d4] 64));(replace S:=(S.keep hb6).alloc (.cells #[.int .i64 d1,.int .i64 d2,.int .i64 d3,.int .i64 d4] 64));(replace R:=(R.keep hb6).alloc (.cells #[.int .i64 d1,.int .i64 d2,.int .i64 d3,.int .i64 d4] 64));(have Y:=aH.new w6 #[.int .i64 d1,.int .i64 d2,.int .i64 d3,.int .i64 d4] 64);(have ⟨ky0,ky1,ky2,ky3,_,_,_,_,_⟩:=Y.aN);(have ⟨kx0,kx1,kx2,kx3,_,_,_,_,_⟩:=X.aN);(have ⟨r0,r1,r2,r3,z0,z1,z2,z3,rl⟩:=R.aN)) | (go_at_call 70;(with_reducible refine (PX.out _).mono ?_);rintro e w7 ⟨rfl,hb7⟩;(replace B:=(B.trans (hb7.mono B.size)).alloc (Nat.le_trans B.size hb7.size) (.cells #[.int .i64 p1,.int .i64 p2,.int .i64 p3,.int .i64 p4] 64));(replace S:=(S.keep hb7).alloc (.cells #[.int .i64 p1,.int .i64 p2,.int .i64 p3,.int .i64 p4] 64));(replace R:=(R.keep hb7).alloc (.cells #[.int .i64 p1,.int .i64 p2,.int .i64 p3,.int .i64 p4] 64));(have Z:=aH.new w7 #[.int .i64 p1,.int .i64 p2,.int .i64 p3,.int .i64 p4] 64);(have ⟨ka0,ka1,ka2,ka3,_,_,_,_,_⟩:=Z.aN);(have ⟨ks0,ks1,ks2,ks3,_,_,_,_,_⟩:=S.aN);(have ⟨r0,r1,r2,r3,z0,z1,z2,z3,rl⟩:=R.aN)) | (go_at_call 71;(with_reducible refine (PA.out _).mono ?_);rintro e w8 ⟨rfl,hb8⟩;(have hs8:=xL (S.keep hb8).lt);(have hr8:=xL (R.keep hb8).lt);(replace B:=(B.trans (hb8.mono B.size)).alloc (Nat.le_trans B.size hb8.size) (.cells #[.int .i64 v1,.int .i64 v2,.int .i64 v3,.int .i64 v4] 64));(replace S:=(S.keep hb8).alloc (.cells #[.int .i64 v1,.int .i64 v2,.int .i64 v3,.int .i64 v4] 64));(replace R:=(R.keep hb8).alloc (.cells #[.int .i64 v1,.int .i64 v2,.int .i64 v3,.int .i64 v4] 64));(replace Z:=(Z.keep hb8).alloc (.cells #[.int .i64 v1,.int .i64 v2,.int .i64 v3,.int .i64 v4] 64));(have N:=aH.new w8 #[.int .i64 v1,.int .i64 v2,.int .i64 v3,.int .i64 v4] 64);(have ⟨kn0,kn1,kn2,kn3,nz0,nz1,nz2,nz3,nl⟩:=N.aN);(have ⟨ka0,ka1,ka2,ka3,_,_,_,_,_⟩:=Z.aN);(have ⟨ks0,ks1,ks2,ks3,sz0,sz1,sz2,sz3,sl⟩:=S.aN);(have ⟨r0,r1,r2,r3,z0,z1,z2,z3,rl⟩:=R.aN)) | (go_at_call 72;(with_reducible refine (PS.out _).mono ?_);rintro e w9 ⟨rfl,hb9⟩;(have n1_:sb≠w8.heap.size:=by have:=hs8.out;omega);(have hz8:w.heap.size≤w8.heap.size:=by have:=hr8.out;omega);(have n2_:w.heap.size≠w8.heap.size:=by have:=hr8.out;omega);(replace B:=xN (xN (xN (xN (B.trans (hb9.mono B.size)) (p:=⟨w8.heap.size,0,none⟩) (by show w.heap.size≤w8.heap.size;omega) (.int .i64 0)) (p:=⟨w8.heap.size,1,none⟩) (by show w.heap.size≤w8.heap.size;omega) (.int .i64 0)) (p:=⟨w8.heap.size,2,none⟩) (by show w.heap.size≤w8.heap.size;omega) (.int .i64 0)) (p:=⟨w8.heap.size,3,none⟩) (by show w.heap.size≤w8.heap.size;omega) (.int .i64 0));(replace S:=(S.keep hb9).fd n1_ (.int .i64 0) (.int .i64 0) (.int .i64 0) (.int .i64 0));(replace R:=(R.keep hb9).fd n2_ (.int .i64 0) (.int .i64 0) (.int .i64 0) (.int .i64 0));(replace N:=(N.keep hb9));(have ⟨kn0,kn1,kn2,kn3,nz0,nz1,nz2,nz3,nl⟩:=N.aN);(replace N:=N.kG (.int .i64 0) (.int .i64 0) (.int .i64 0) (.int .i64 0));(have ⟨km0,km1,km2,km3,_,_,_,_,_⟩:=N.aN);(have ⟨ks0,ks1,ks2,ks3,sz0,sz1,sz2,sz3,sl⟩:=S.aN);(have ⟨r0,r1,r2,r3,z0,z1,z2,z3,rl⟩:=R.aN))
   exact bodyPost_ret (v:=.tuple #[.agg #[.int .i64 0,.int .i64 0,.int .i64 0,.int .i64 0],.bool false]) (by simp [results,Tryz.results53,go_sem, *]) rfl (⟨by rw [hfin.out];rfl,xN (xN (xN (xN B (xP _) _) (xP _) _) (xP _) _) (xP _) _⟩)
  | some sx=>
  have hnx:=xL hnx2
  have e5:(some sx:M.Sp).isSome=true:=rfl
  rw [e5] at PS
  clear e5 hnx2
  obtain ⟨x1,hx1⟩:∃ x,x=M.in1 (some sx):=⟨_,rfl⟩
  obtain ⟨x2,hx2⟩:∃ x,x=M.in2 (some sx):=⟨_,rfl⟩
  obtain ⟨x3,hx3⟩:∃ x,x=M.in3 (some sx):=⟨_,rfl⟩
  obtain ⟨x4,hx4⟩:∃ x,x=M.in4 (some sx):=⟨_,rfl⟩
  rw [←hx1,←hx2,←hx3,←hx4] at PS
  replace hx1:=xL hx1
  replace hx2:=xL hx2
  replace hx3:=xL hx3
  replace hx4:=xL hx4
  replace PS:=xL PS
  go_wp2_with first | (go_at_call 69;(with_reducible refine (PN.out _ hmw.out).mono ?_);rintro e w4 ⟨vo,rfl,hM4,hb4⟩;(replace B:=B.trans (hb4.mono B.size));(replace X:=X.keep hb4);(replace S:=S.keep hb4);(replace R:=R.keep hb4)) | (go_at_call 53;(with_reducible refine (PD.out _ _ _ hM4).mono ?_);rintro e w6 ⟨rfl,hb6⟩;(replace B:=(B.trans (hb6.mono B.size)).alloc (Nat.le_trans B.size hb6.size) (.cells #[.int .i64 d1,.int .i64 d2,.int .i64 d3,.int .i64 d4] 64));(replace X:=(X.keep hb6).alloc (.cells #[.int .i64 d1,.int .i64 d2,.int .i64 d3,.int .i64 d4] 64));(replace S:=(S.keep hb6).alloc (.cells #[.int .i64 d1,.int .i64 d2,.int .i64 d3,.int .i64 d4] 64));(replace R:=(R.keep hb6).alloc (.cells #[.int .i64 d1,.int .i64 d2,.int .i64 d3,.int .i64 d4] 64));(have Y:=aH.new w6 #[.int .i64 d1,.int .i64 d2,.int .i64 d3,.int .i64 d4] 64);(have ⟨ky0,ky1,ky2,ky3,_,_,_,_,_⟩:=Y.aN);(have ⟨kx0,kx1,kx2,kx3,_,_,_,_,_⟩:=X.aN);(have ⟨r0,r1,r2,r3,z0,z1,z2,z3,rl⟩:=R.aN)) | (go_at_call 70;(with_reducible refine (PX.out _).mono ?_);rintro e w7 ⟨rfl,hb7⟩;(replace B:=(B.trans (hb7.mono B.size)).alloc (Nat.le_trans B.size hb7.size) (.cells #[.int .i64 p1,.int .i64 p2,.int .i64 p3,.int .i64 p4] 64));(replace S:=(S.keep hb7).alloc (.cells #[.int .i64 p1,.int .i64 p2,.int .i64 p3,.int .i64 p4] 64));(replace R:=(R.keep hb7).alloc (.cells #[.int .i64 p1,.int .i64 p2,.int .i64 p3,.int .i64 p4] 64));(have Z:=aH.new w7 #[.int .i64 p1,.int .i64 p2,.int .i64 p3,.int .i64 p4] 64);(have ⟨ka0,ka1,ka2,ka3,_,_,_,_,_⟩:=Z.aN);(have ⟨ks0,ks1,ks2,ks3,_,_,_,_,_⟩:=S.aN);(have ⟨r0,r1,r2,r3,z0,z1,z2,z3,rl⟩:=R.aN)) | (go_at_call 71;(with_reducible refine (PA.out _).mono ?_);rintro e w8 ⟨rfl,hb8⟩;(have hs8:=xL (S.keep hb8).lt);(have hr8:=xL (R.keep hb8).lt);(replace B:=(B.trans (hb8.mono B.size)).alloc (Nat.le_trans B.size hb8.size) (.cells #[.int .i64 v1,.int .i64 v2,.int .i64 v3,.int .i64 v4] 64));(replace S:=(S.keep hb8).alloc (.cells #[.int .i64 v1,.int .i64 v2,.int .i64 v3,.int .i64 v4] 64));(replace R:=(R.keep hb8).alloc (.cells #[.int .i64 v1,.int .i64 v2,.int .i64 v3,.int .i64 v4] 64));(replace Z:=(Z.keep hb8).alloc (.cells #[.int .i64 v1,.int .i64 v2,.int .i64 v3,.int .i64 v4] 64));(have N:=aH.new w8 #[.int .i64 v1,.int .i64 v2,.int .i64 v3,.int .i64 v4] 64);(have ⟨kn0,kn1,kn2,kn3,nz0,nz1,nz2,nz3,nl⟩:=N.aN);(have ⟨ka0,ka1,ka2,ka3,_,_,_,_,_⟩:=Z.aN);(have ⟨ks0,ks1,ks2,ks3,sz0,sz1,sz2,sz3,sl⟩:=S.aN);(have ⟨r0,r1,r2,r3,z0,z1,z2,z3,rl⟩:=R.aN)) | (go_at_call 72;(with_reducible refine (PS.out _).mono ?_);rintro e w9 ⟨rfl,hb9⟩;(have n1_:sb≠w8.heap.size:=by have:=hs8.out;omega);(have hz8:w.heap.size≤w8.heap.size:=by have:=hr8.out;omega);(have n2_:w.heap.size≠w8.heap.size:=by have:=hr8.out;omega);(replace B:=xN (xN (xN (xN (B.trans (hb9.mono B.size)) (p:=⟨w8.heap.size,0,none⟩) (by show w.heap.size≤w8.heap.size;omega) (.int .i64 x1)) (p:=⟨w8.heap.size,1,none⟩) (by show w.heap.size≤w8.heap.size;omega) (.int .i64 x2)) (p:=⟨w8.heap.size,2,none⟩) (by show w.heap.size≤w8.heap.size;omega) (.int .i64 x3)) (p:=⟨w8.heap.size,3,none⟩) (by show w.heap.size≤w8.heap.size;omega) (.int .i64 x4));(replace S:=(S.keep hb9).fd n1_ (.int .i64 x1) (.int .i64 x2) (.int .i64 x3) (.int .i64 x4));(replace R:=(R.keep hb9).fd n2_ (.int .i64 x1) (.int .i64 x2) (.int .i64 x3) (.int .i64 x4));(replace N:=(N.keep hb9));(have ⟨kn0,kn1,kn2,kn3,nz0,nz1,nz2,nz3,nl⟩:=N.aN);(replace N:=N.kG (.int .i64 x1) (.int .i64 x2) (.int .i64 x3) (.int .i64 x4));(have ⟨km0,km1,km2,km3,_,_,_,_,_⟩:=N.aN);(have ⟨ks0,ks1,ks2,ks3,sz0,sz1,sz2,sz3,sl⟩:=S.aN);(have ⟨r0,r1,r2,r3,z0,z1,z2,z3,rl⟩:=R.aN))
  go_roundw
  case rel=>exact ⟨c+1,sx,by omega,by go_num,hnx,by rw [←hx1.out,←hx2.out,←hx3.out,←hx4.out];exact aH.kG S _ _ _ _,R.fd nRS _ _ _ _,by rw [aY,aY,aY,aY];omega,xN (xN (xN (xN B hsb _) hsb _) hsb _) hsb _⟩
  case measure=>simp [intOf] <;> omega
 obtain rfl:c=n+2:=by omega
 have hd:M.cf (n+1+1) m=some s:=by rw [←hs.out];exact hsome.out
 have hd:=xL hd
 obtain ⟨x1,hx1⟩:∃ x,x=M.in1 (some s):=⟨_,rfl⟩
 obtain ⟨x2,hx2⟩:∃ x,x=M.in2 (some s):=⟨_,rfl⟩
 obtain ⟨x3,hx3⟩:∃ x,x=M.in3 (some s):=⟨_,rfl⟩
 obtain ⟨x4,hx4⟩:∃ x,x=M.in4 (some s):=⟨_,rfl⟩
 rw [←hx1,←hx2,←hx3,←hx4] at S
 replace hx1:=xL hx1
 replace hx2:=xL hx2
 replace hx3:=xL hx3
 replace hx4:=xL hx4
 have ⟨ks0,ks1,ks2,ks3,_,_,_,_,_⟩:=S.aN
 have ⟨r0,r1,r2,r3,z0,z1,z2,z3,rl⟩:=R.aN
 go_wp2
 exact bodyPost_ret (v:=.tuple #[.agg #[.int .i64 x1,.int .i64 x2,.int .i64 x3,.int .i64 x4],.bool true]) (by simp [results,Tryz.results53,go_sem, *]) rfl (⟨by rw [hd.out,hx1.out,hx2.out,hx3.out,hx4.out];rfl,xN (xN (xN (xN B (xP _) _) (xP _) _) (xP _) _) (xP _) _⟩)
namespace M
theorem uW {a b:Int} {l:List Pt} {i j:Nat}:okS (ent a b l i j):=by
 have hp:∀ X1 Y1 E1 X2 Y2 E2,okS (dV a b X1 Y1 E1 X2 Y2 E2):=fun X1 Y1 E1 X2 Y2 E2=>by
  unfold dV
  split
  ·exact iy
  exact eF
 unfold ent
 split
 ·split
  ·exact pZ
  split <;> exact hp _ _ _ _ _ _
 exact eF
theorem nO {s:Sp} (h:s.isSome=true):some (spc s)=s:=by
 cases s with
 | none=>cases h
 | some p=>rfl
theorem pK {a b:Int} {l:List Pt} (h:mOk a b l=true) {i j:Nat} (hi:i<l.length) (hj:j<l.length):(ent a b l i j).isSome=true:=by
 unfold mOk at h
 simp only [List.all_eq_true,List.mem_range] at h
 exact h i hi j hj
theorem jj {a b:Int} {l:List Pt} (h:mOk a b l=true):dm a b l=(List.range l.length).map (fun i=>(List.range l.length).map fun j=>spc (ent a b l i j)):=by
 unfold dm
 rw [h]
 rfl
theorem ml {a b:Int} {l:List Pt} (h:mOk a b l=true):square l.length (dm a b l):=by
 rw [jj h]
 refine ⟨by rw [List.length_map,List.length_range],fun r hr=>?_⟩
 obtain ⟨i,hi,rfl⟩:=List.mem_map.1 hr
 rw [List.length_map,List.length_range]
theorem jk {a b:Int} {l:List Pt} (h:mOk a b l=true):okM (dm a b l):=by
 rw [jj h]
 intro r hr q hq
 obtain ⟨i,hi,rfl⟩:=List.mem_map.1 hr
 obtain ⟨j,hj,rfl⟩:=List.mem_map.1 hq
 have:=pK h (List.mem_range.1 hi) (List.mem_range.1 hj)
 exact uW (a:=a) (b:=b) (l:=l) (i:=i) (j:=j) _ (nO this).symm
theorem sr {a b:Int} {l:List Pt} (h:mOk a b l=true):kU a b l=ivM (dm a b l):=by
 rw [kV h,jj h]
 unfold ivM ic
 rw [List.map_map]
 refine List.map_congr_left fun i hi=>?_
 simp only [Function.comp,List.map_map]
 refine List.map_congr_left fun j hj=>?_
 simp only [Function.comp]
 rw [nO (pK h (List.mem_range.1 hi) (List.mem_range.1 hj))]
noncomputable def eO (a b:Int) (l:List Pt):Sp:=if mOk a b l=true then cf l.length (dm a b l) else none
theorem lW {a b:Int} {l:List Pt} (h:mOk a b l=false):eO a b l=none:=by unfold eO;rw [h];rfl
theorem jq {a b:Int} {l:List Pt} (h:mOk a b l=true):eO a b l=cf l.length (dm a b l):=by unfold eO;rw [h];rfl
theorem qE (n:Nat) (m:Mat):fK true n m=cf n m:=by
 unfold fK
 split
 ·rename_i h;rw [h]
 rfl
end M
theorem nF (a b:Int) (v:Value) (l:List Pt) (w:World) (hx:dh w v l) (hg:M.good a b=true) (h1:1≤l.length) (hn:l.length≤4) (hp:∀ p ∈ l,M.bP a b p.1 p.2.1 p.2.2=true) :
  Calls Tryz.prog 35 #[.agg #[.int .i64 a,.int .i64 b],v] w fun e w'=>e=.returned (.tuple #[.agg #[.int .i64 (M.slo (M.eO a b l)),.int .i64 (M.shi (M.eO a b l))],.bool (M.eO a b l).isSome])∧Below w.heap.size w w':=by
 obtain ⟨n,hl⟩:∃ n,l.length=n+1:=⟨l.length - 1,by omega⟩
 have PM:=fun W h=>ie a b v l W h hg hn hp
 have PD:=fun (h:M.mOk a b l=true) v g base W hm K=>wj n (M.dm a b l) v g base true W (by omega) (by rw [←hl];exact M.ml h) (M.jk h) hm K
 have hry:=fun h=>M.jq (a:=a) (b:=b) (l:=l) h
 have hrn:=fun h=>M.lW (a:=a) (b:=b) (l:=l) h
 rw [hl] at hry
 generalize M.eO a b l=rs at *
 generalize M.dm a b l=rows at *
 replace hx:=xL hx
 obtain ⟨wc,hw3,C,R,B⟩:=tk w #[.int .i64 a,.int .i64 b] 29 #[.int .i64 0,.int .i64 0] 68
 have hxc:=xL (hx.out.below B)
 have hzz:w.heap.size+2≤wc.heap.size:=by have:=R.lt;omega
 have C_c0:=C.box.c0
 have C_c1:=C.box.c1
 cases hm:M.mOk a b l with
 | false=>
  rw [hm] at PM
  have hfin:=xL (hrn hm)
  replace PM:=xL PM
  clear PD hry hrn hm
  go_enter Tryz.func35,Tryz.ntmps35
  go_wp2_with (go_at_call 58;(with_reducible refine (PM.out _ hxc.out).mono ?_);rintro e w4 ⟨mv,rfl,hM,hb4⟩;(replace B:=B.trans (hb4.mono B.size));(replace R:=R.keep hb4);(have ⟨r0,r1,z0,z1,rl⟩:=R.box))
  exact bodyPost_ret (v:=.tuple #[.agg #[.int .i64 0,.int .i64 0],.bool false]) (by simp [results,Tryz.results35,go_sem, *]) rfl (⟨by rw [hfin.out];rfl,xN (xN B (by simp) _) (by simp) _⟩)
 | true=>
 rw [hm] at PM
 replace PD:=PD hm
 simp only [M.qE,Bool.true_and] at PD
 rw [←hry hm] at PD
 replace PM:=xL PM
 replace PD:=xL PD
 generalize rs.isSome=f at *
 generalize M.slo rs=lo at *
 generalize M.shi rs=hi at *
 clear hry hrn hm
 go_enter Tryz.func35,Tryz.ntmps35
 go_wp2_with first | (go_at_call 58;(with_reducible refine (PM.out _ hxc.out).mono ?_);rintro e w4 ⟨mv,rfl,hM,hb4⟩;(have hz4:=hb4.size);(have Ba:=(xO w4.heap.size w4).alloc (xP _) (.cells #[.bool true] 94));(have K:=aH.new w4 #[.bool true] 94);(replace hM:=xL (hM.below Ba));(replace R:=(R.keep hb4).keep Ba);(replace B:=(B.trans (hb4.mono B.size)).trans (Ba.mono (Nat.le_trans B.size hb4.size)));(have nR:w.heap.size+1≠w4.heap.size:=by omega);(have hsz:=B.size);(have nB:w.heap.size≤w4.heap.size:=by omega);(clear Ba C_c0 C_c1 C hxc)) | (go_at_call 59;(with_reducible refine (PD.out _ _ _ _ hM.out K).mono ?_);rintro e w6 ⟨rfl,hb6⟩;(have hb7:=bD hb6);(replace R:=(R.other (i:=0) nR (.bool f)).keep hb7);(replace K:=(K.one (.bool f)).keep hb7);(replace B:=(xN B nB (.bool f)).trans (hb6.mono hsz));(have Ba:=(xO w6.heap.size w6).alloc (xP _) (.cells #[.int .i64 lo,.int .i64 hi] 68));(have V:=aH.new w6 #[.int .i64 lo,.int .i64 hi] 68);(replace B:=B.trans (Ba.mono B.size));(replace R:=R.keep Ba);(replace K:=K.keep Ba);(have k0:=K.cell 0);(have ⟨v0,v1,_,_,_⟩:=V.box);(have ⟨r0,r1,z0,z1,rl⟩:=R.box);(clear hb6 hb7 Ba))
 go_region
 all_goals
  go_wp2
  exact bodyPost_ret (v:=.tuple #[.agg #[.int .i64 lo,.int .i64 hi],.bool f]) (by simp [results,Tryz.results35,go_sem, *]) rfl (⟨rfl,Below.drew (xN (xN B (by simp) _) (by simp) _)⟩)
theorem kA (a b:Int) (v:Value) (l:List Pt) (w:World) (hx:dh w v l) (hg:M.good a b=true) (h1:1≤l.length) (hn:l.length≤4) (hp:∀ p ∈ l,M.bP a b p.1 p.2.1 p.2.2=true) :
  Calls Tryz.prog 33 #[.agg #[.int .i64 a,.int .i64 b],v] w fun e w'=>e=.returned (.tuple #[.agg #[.int .i64 (M.in1 (M.eO a b l)),.int .i64 (M.in2 (M.eO a b l)),.int .i64 (M.in3 (M.eO a b l)),.int .i64 (M.in4 (M.eO a b l))],.bool (M.eO a b l).isSome])∧Below w.heap.size w w':=by
 obtain ⟨n,hl⟩:∃ n,l.length=n+1:=⟨l.length - 1,by omega⟩
 have PM:=fun W h=>oH a b v l W h hg hn hp
 have PD:=fun (h:M.mOk a b l=true) v base W hm=>uK n (M.dm a b l) v base W (by omega) (by rw [←hl];exact M.ml h) (M.jk h) hm
 have hry:=fun h=>M.jq (a:=a) (b:=b) (l:=l) h
 have hrn:=fun h=>M.lW (a:=a) (b:=b) (l:=l) h
 have hiv:=fun h=>M.sr (a:=a) (b:=b) (l:=l) h
 rw [hl] at hry
 generalize M.eO a b l=rs at *
 generalize M.dm a b l=rows at *
 replace hx:=xL hx
 obtain ⟨wc,hw3,C,R,B⟩:=tk w #[.int .i64 a,.int .i64 b] 29 #[.int .i64 0,.int .i64 0,.int .i64 0,.int .i64 0] 64
 have hxc:=xL (hx.out.below B)
 have C_c0:=C.box.c0
 have C_c1:=C.box.c1
 cases hm:M.mOk a b l with
 | false=>
  rw [hm] at PM
  have hfin:=xL (hrn hm)
  replace PM:=xL PM
  clear PD hry hrn hm
  go_enter Tryz.func33,Tryz.ntmps33
  go_wp2_with (go_at_call 52;(with_reducible refine (PM.out _ hxc.out).mono ?_);rintro e w4 ⟨mv,rfl,hM,hb4⟩;(replace B:=B.trans (hb4.mono B.size));(replace R:=R.keep hb4);(have ⟨r0,r1,r2,r3,z0,z1,z2,z3,rl⟩:=R.aN))
  exact bodyPost_ret (v:=.tuple #[.agg #[.int .i64 0,.int .i64 0,.int .i64 0,.int .i64 0],.bool false]) (by simp [results,Tryz.results33,go_sem, *]) rfl (⟨by rw [hfin.out];rfl,xN (xN (xN (xN B (by simp) _) (by simp) _) (by simp) _) (by simp) _⟩)
 | true=>
 rw [hm] at PM
 replace PD:=PD hm
 rw [←hry hm] at PD
 rw [hiv hm] at PM
 replace PM:=xL PM
 replace PD:=xL PD
 generalize rs.isSome=f at *
 generalize M.in1 rs=i1 at *
 generalize M.in2 rs=i2 at *
 generalize M.in3 rs=i3 at *
 generalize M.in4 rs=i4 at *
 clear hry hrn hm hiv
 go_enter Tryz.func33,Tryz.ntmps33
 go_wp2_with first | (go_at_call 52;(with_reducible refine (PM.out _ hxc.out).mono ?_);rintro e w4 ⟨mv,rfl,hM,hb4⟩;(replace hM:=xL hM);(replace B:=B.trans (hb4.mono B.size));(replace R:=R.keep hb4)) | (go_at_call 53;(with_reducible refine (PD.out _ _ _ hM.out).mono ?_);rintro e w6 ⟨rfl,hb6⟩;(replace B:=B.trans (hb6.mono B.size));(replace R:=R.keep hb6);(have ⟨r0,r1,r2,r3,z0,z1,z2,z3,rl⟩:=R.aN))
 exact bodyPost_ret (v:=.tuple #[.agg #[.int .i64 i1,.int .i64 i2,.int .i64 i3,.int .i64 i4],.bool f]) (by simp [results,Tryz.results33,go_sem, *]) rfl (⟨rfl,xN (xN (xN (xN B (by simp) _) (by simp) _) (by simp) _) (by simp) _⟩)
end
end Go.Proofs.YtgfkcoablfjbcaaGreat
