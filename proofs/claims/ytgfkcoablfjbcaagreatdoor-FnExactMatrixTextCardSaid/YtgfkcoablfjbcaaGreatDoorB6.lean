/-
  Joined texts: contracts and plain lemmas.
-/
import Derived.Test.YtgfkcoablfjbcaaGreatDoorB1
import Derived.Test.YtgfkcoablfjbcaaGreatDoorB5
import Derived.Test.YtgfkcoablfjbcaaGreatDoorShB
import Derived.Lib.BitFns
set_option linter.unusedSimpArgs false
set_option linter.unusedVariables false
set_option maxRecDepth 100000
set_option maxHeartbeats 8000000
namespace Go.Proofs.YtgfkcoablfjbcaaGreatDoor
section
open Go.RowKit
theorem df (a n:Int) (va:Value) (w:World) (ba:Nat) (hoa:ae w ba va a) (hl1:(Wh.dig a.natAbs).length≤10000) (hn1:-1000000000000000000≤n) (hn2:n≤1000000000000000000) :
  Calls Tryz.prog 127 #[.agg #[.bool (decide (a<0)),va],.int .i64 n] w fun e w'=>∃ sl,e=.returned (.agg #[.bool (decide (a*n<0)),sl])∧ae w' w.heap.size sl (a*n)∧Below w.heap.size w w':=by
 obtain ⟨aa,capa,rfl,-,-⟩:=aF.view hoa
 have hnl:(Wh.dig n.natAbs).length≤10000:=Nat.le_trans (Wh.dE (k:=5) (by omega)) (by decide)
 have PM:=fun W=>iY n W hn1 hn2
 have PA:=fun vb' W bb' (h1:aF W ba (.slice aa (Wh.dig a.natAbs).length capa) (Wh.dig a.natAbs)) (h2:ae W bb' vb' n)=>db a n (.slice aa (Wh.dig a.natAbs).length capa) vb' W ba bb' h1 h2 hl1 hnl
 have hOA:Hid (∀ W,Below w.heap.size w W→aF W ba (.slice aa (Wh.dig a.natAbs).length capa) (Wh.dig a.natAbs)):=uh fun W h=>aF.below hoa h
 clear hoa hnl hn1 hn2
 generalize decide (a<0)=s1 at *
 generalize a*n=z at *
 generalize Wh.dig a.natAbs=xs at *
 generalize xs.length=l1 at *
 generalize decide (z<0)=s at *
 generalize decide (n<0)=s3 at *
 have PM:=uh PM
 have PA:=uh PA
 have n1:=(af.new w (.bool s1) (.slice aa l1 capa) 106).alloc (.cells #[.bool false,.slice none 0 0] 106)
 have n3:=af.new2 w (.cells #[.bool s1,.slice aa l1 capa] 106) (.bool false) (.slice none 0 0) 106
 have Bn:=((uk w.heap.size w).alloc (ul _) (.cells #[.bool s1,.slice aa l1 capa] 106)).alloc (by rw [ui];omega) (.cells #[.bool false,.slice none 0 0] 106)
 generalize hw3:(w.alloc (.cells #[.bool s1,.slice aa l1 capa] 106)).alloc (.cells #[.bool false,.slice none 0 0] 106)=w3 at *
 have e1:=n1.c0
 have e2:=n1.c1
 go_enter Tryz.func127,Tryz.ntmps127
 go_wp2
 go_region_held3 (fun W=>W.cell? ⟨w.heap.size,0,none⟩=some (.bool s1)∧W.cell? ⟨w.heap.size,1,none⟩=some (.slice aa l1 capa)) (first | (refine ⟨?_,?_⟩ <;> (first | (with_reducible exact aE (by assumption) (by assumption)) | (with_reducible exact Gr.aw (by assumption)) | (with_reducible refine Gr.bM (by assumption) ?_;(intro hh_;(try simp only [ui,aM,World.heap_drewN,aI] at hh_);omega)) | (with_reducible refine Gr.co (by assumption) ?_ ?_ <;> (intro hh_;(try simp only [ui,aM,World.heap_drewN,aI] at hh_);omega)) | exact aE (by assumption) (by assumption) | (with_reducible exact ar (by assumption) (by assumption) (by assumption)))) | (go_split_ands;(refine ⟨?_,?_⟩ <;> (first | (with_reducible exact aE (by assumption) (by assumption)) | (with_reducible exact Gr.aw (by assumption)) | (with_reducible refine Gr.bM (by assumption) ?_;(intro hh_;(try simp only [ui,aM,World.heap_drewN,aI] at hh_);omega)) | (with_reducible refine Gr.co (by assumption) ?_ ?_ <;> (intro hh_;(try simp only [ui,aM,World.heap_drewN,aI] at hh_);omega)) | exact aE (by assumption) (by assumption) | (with_reducible exact ar (by assumption) (by assumption) (by assumption))))) | go_keep) ((first
  | (go_at_call 112;(with_reducible refine (PM.out _).mono ?_);rintro e w4 ⟨v4,rfl,ho4,hb4⟩;(have B4:=Bn.drew.trans (hb4.mono Bn.size));(have r4:=n3.drew.keep hb4);(have x1_:=aE hb4 (aW e1));(have x2_:=aE hb4 (aW e2));(have z4:w3.heap.size≤w4.heap.size:=hb4.size))
  | (go_at_call 126;(with_reducible refine (PA.out _ _ _ (hOA.out _ B4) ho4).mono ?_);rintro e w5 ⟨vc,rfl,hoc,hbc⟩;obtain ⟨ac,capc,rfl,hmc,hvc⟩:=aF.view hoc;(have B5:=B4.trans (hbc.mono B4.size));(have r5:=r4.keep hbc);(have c0:=r5.c0);(have c1:=r5.c1);(have g0:=r5.f0);(have g1:=r5.f1);(have y1_:=aE hbc x1_);(have y2_:=aE hbc x2_);(clear hvc hmc))
  | fail "ARMS"))
 all_goals
  have hr:=cH (w:=w) (w.heap.size+1) _ (.bool s) (by omega) (Nat.lt_of_lt_of_le n3.size z4) hoc B5
  generalize (Wh.dig z.natAbs).length=n2_ at *
  go_wp2
  exact bodyPost_ret (v:=.agg #[.bool s,.slice ac n2_ capc]) (by simp [results,Tryz.results127,go_sem, *]) rfl (⟨_,rfl,hr.1,hr.2⟩)
theorem dq (a n:Int) (va:Value) (w:World) (ba:Nat) (hoa:ae w ba va a) (hl:(Wh.dig a.natAbs).length≤9000) (hn1:1≤n) (hn2:n≤1000000000000) :
  Calls Tryz.prog 131 #[.agg #[.bool (decide (a<0)),va],.int .i64 n] w fun e w'=>∃ sl,e=.returned (.tuple #[.agg #[.bool (decide (a / n<0)),sl],.int .i64 (a % n)])∧ae w' w.heap.size sl (a / n)∧Below w.heap.size w w':=by
 obtain ⟨aa,capa,rfl,hma,hva⟩:=aF.seen hoa
 have hva:=uh hva
 have hla:=uh (Wh.ai a.natAbs)
 have hvl:=uh (Wh.bI a.natAbs)
 have hq0:=fun s=>Wh.nY (a:=a) (n:=n) s (by omega)
 have PT:=fun s W v base ho=>fI (Wh.sgn s ((a.natAbs:Int) / n)) ((a.natAbs:Int) / n) (Wh.dig a.natAbs).length s v W base ho (by omega) rfl
 have d0:=fun h=>Wh.qL (a:=a) (n:=n) h
 have d1:=fun h h'=>Wh.qJ (a:=a) (n:=n) (by omega) h h'
 have d2:=fun h h'=>Wh.qK (a:=a) (n:=n) (by omega) h h'
 have d0:=uh d0
 have d1:=uh d1
 have d2:=uh d2
 clear hma hoa
 obtain ⟨s1,hs1⟩:∃ s,decide (a<0)=s:=⟨_,rfl⟩
 rw [hs1]
 have hs1:=uh hs1
 generalize a / n=z at *
 generalize a % n=zr at *
 generalize hab:(a.natAbs:Int)=A at *
 have hvl2:Hid (Wh.val (Wh.dig a.natAbs)=A):=hvl
 clear hvl hab
 generalize Wh.dig a.natAbs=xs at *
 obtain ⟨s,hsd⟩:∃ s,Hid (decide (z<0)=s):=⟨_,uh rfl⟩
 rw [hsd.out]
 have b1:=(af.new w (.bool s1) (.slice aa xs.length capa) 106).alloc (.cells #[.bool false,.slice none 0 0] 106)
 have b2:=af.new2 w (.cells #[.bool s1,.slice aa xs.length capa] 106) (.bool false) (.slice none 0 0) 106
 have hB:=((uk w.heap.size w).alloc (ul _) (.cells #[.bool s1,.slice aa xs.length capa] 106)).alloc (by rw [ui];omega) (.cells #[.bool false,.slice none 0 0] 106)
 generalize hw3:(w.alloc (.cells #[.bool s1,.slice aa xs.length capa] 106)).alloc (.cells #[.bool false,.slice none 0 0] 106)=w3 at *
 obtain ⟨w4,hrun,hown1,hg1⟩:=jh w3 xs.length (by omega)
 have hb4:Below w3.heap.size w3 w4:=cU hg1 (ul _) (fun k hk=>by cases hk)
 have hB3:=uh hB
 have e2:=b1.c1
 have b1h:=uh b1
 have b2h:=uh b2
 have f2_:=(b1.keep hb4).c1
 clear hg1 b2 hB
 go_enter Tryz.func131,Tryz.ntmps131
 go_wp2
 clear e2 b1 f2_
 go_loopw [7,8] (fun vr vi wr=>∃ (k:Nat) (q:List Int) (r:Int),k≤xs.length∧vi=.int .i64 ((k:Int) - 1)∧vr=.int .i64 r∧aF wr w3.heap.size (.slice (some ⟨w3.heap.size,0,none⟩) xs.length xs.length) q∧Wh.iP xs q n k r∧Below w3.heap.size w3 wr) (fun _ vi _=>(intOf vi+1).toNat)
 case atStart=>exact ⟨xs.length,List.replicate xs.length 0,0,ul _,rfl,rfl,hown1,Wh.iP.start (by omega) List.length_replicate,hb4⟩
 case round=>
 clear hown1 hb4
 obtain ⟨k,q,r,hk,rfl,rfl,hown,hdi,hbr⟩:=hrel
 have c1:=b1h.out.dI hbr b1h.out.size
 have c2:=b2h.out.dI hbr b2h.out.size
 have hwr:Below w.heap.size w wr:=hB3.out.trans (hbr.mono hB3.out.size)
 cases k with
 | zero=>
  have hf:=hdi.fin
  rw [hvl2.out] at hf
  obtain ⟨hq1,rfl,hq3⟩:=hf
  have hov:Hid (iS wr w3.heap.size (.slice (some ⟨w3.heap.size,0,none⟩) xs.length xs.length) (A / n) xs.length):=uh ⟨q,hown,hq3,hq1,by rw [hdi.len];exact ul _⟩
  have hd0:=c1.c0
  clear hdi hown hq1 hq3
  cases s1
  ·have hna:¬ a<0:=by have:=hs1.out;simpa using this
   obtain ⟨hz1,hz2⟩:=d0.out (by omega)
   have PT:=PT false
   rw [hz1] at PT
   rw [hsd.out] at PT
   have PT:=uh PT
   rw [hz2]
   go_wp2_with (go_at_call 133;(with_reducible refine (PT.out _ _ _ hov.out).mono ?_);rintro e w5 ⟨vc,rfl,hoc,hbc⟩;obtain ⟨ac,capc,rfl,hmc,hvc⟩:=aF.view hoc;(have r5:=c2.keep hbc);(have b5:=c1.keep hbc);(have p0:=r5.c0);(have p1:=r5.c1);(have g0:=r5.f0);(have g1:=r5.f1);(have z5:=r5.size);(have y5:=b5.size);(have x0:=b5.c0);(clear hvc hmc))
   have hr0:=cH (w:=w) (w2:=w5) (w.heap.size+1) _ (.bool s) (by omega) c2.size hoc (hwr.trans (hbc.mono hwr.size))
   have hr1:=aF.alloc hr0.1 (.cells #[.bool s,.slice ac (Wh.dig z.natAbs).length capc] 106)
   have hr2:=hr0.2.alloc hr0.2.size (.cells #[.bool s,.slice ac (Wh.dig z.natAbs).length capc] 106)
   generalize (Wh.dig z.natAbs).length=n2_ at *
   exact bodyPost_ret (v:=.tuple #[.agg #[.bool s,.slice ac n2_ capc],.int .i64 zr]) (by simp [results,Tryz.results131,go_sem, *]) rfl (⟨_,rfl,hr1,hr2⟩)
  have hna:a<0:=by have:=hs1.out;simpa using this
  by_cases hrz:A % n=0
  ·skip
   obtain ⟨hz1,hz2⟩:=d1.out hna hrz
   have PT:=PT true
   rw [hz1] at PT
   rw [hsd.out] at PT
   have PT:=uh PT
   rw [hz2] at hrz ⊢
   go_wp2_with (go_at_call 133;(with_reducible refine (PT.out _ _ _ hov.out).mono ?_);rintro e w5 ⟨vc,rfl,hoc,hbc⟩;obtain ⟨ac,capc,rfl,hmc,hvc⟩:=aF.view hoc;(have r5:=c2.keep hbc);(have b5:=c1.keep hbc);(have p0:=r5.c0);(have p1:=r5.c1);(have g0:=r5.f0);(have g1:=r5.f1);(have z5:=r5.size);(have y5:=b5.size);(have x0:=b5.c0);(clear hvc hmc))
   have hr0:=cH (w:=w) (w2:=w5) (w.heap.size+1) _ (.bool s) (by omega) c2.size hoc (hwr.trans (hbc.mono hwr.size))
   have hr1:=aF.alloc hr0.1 (.cells #[.bool s,.slice ac (Wh.dig z.natAbs).length capc] 106)
   have hr2:=hr0.2.alloc hr0.2.size (.cells #[.bool s,.slice ac (Wh.dig z.natAbs).length capc] 106)
   generalize (Wh.dig z.natAbs).length=n2_ at *
   exact bodyPost_ret (v:=.tuple #[.agg #[.bool s,.slice ac n2_ capc],.int .i64 zr]) (by simp [results,Tryz.results131,go_sem, *]) rfl (⟨_,rfl,hr1,hr2⟩)
  obtain ⟨hz1,hz2⟩:=d2.out hna hrz
  have PT:=PT true
  have hq1:=hq0 true
  have hrp:0<A % n:=by have:=Int.emod_nonneg A (show n≠0 by omega);omega
  have hrn:A % n<n:=Int.emod_lt_of_pos _ (by omega)
  generalize Wh.sgn true (A / n)=y0 at *
  generalize A % n=rr at *
  have PW:=fun W=>iY 1 W (by omega) (by omega)
  have PA:=fun va vb W ba bb (h1:aF W ba va (Wh.dig y0.natAbs)) (h2:aF W bb vb (Wh.dig (1:Int).natAbs))=>jy y0 1 va vb W ba bb h1 h2 (by omega) (by have:=Wh.gp;rw [Int.natAbs_neg] at this;omega)
  rw [decide_eq_false (show ¬ (1:Int)<0 by decide)] at PW PA
  rw [show y0 - 1=z by omega,hsd.out] at PA
  have hrp2:=hrp
  obtain ⟨s0,hs0⟩:∃ s0,decide (y0<0)=s0:=⟨_,rfl⟩
  rw [hs0] at PT PA
  have PT:=uh PT
  have PW:=uh PW
  have PA:=uh PA
  replace hz2:=uh hz2
  clear hz1 hs0 hq0 hq1 d0 d1 d2 hrz
  go_wp2_with (go_at_call 133;(with_reducible refine (PT.out _ _ _ hov.out).mono ?_);rintro e w5 ⟨vc,rfl,hoc,hbc⟩;obtain ⟨ac,capc,rfl,hmc,hvc⟩:=aF.view hoc;(have r5:=c2.keep hbc);(have b5:=c1.keep hbc);(have p0:=r5.c0);(have p1:=r5.c1);(have g0:=r5.f0);(have g1:=r5.f1);(have z5:=r5.size);(have y5:=b5.size);(have x0:=b5.c0);(clear hvc hmc))
  have bt:=af.new w5 (.bool s0) (.slice ac (Wh.dig y0.natAbs).length capc) 106
  have r6:=r5.alloc (.cells #[.bool s0,.slice ac (Wh.dig y0.natAbs).length capc] 106)
  have hoc6:=aF.alloc hoc (.cells #[.bool s0,.slice ac (Wh.dig y0.natAbs).length capc] 106)
  have B6:=(hwr.trans (hbc.mono hwr.size)).alloc (by have:=(hwr.trans (hbc.mono hwr.size)).size;omega) (.cells #[.bool s0,.slice ac (Wh.dig y0.natAbs).length capc] 106)
  have u0:=bt.c0
  have u1:=bt.c1
  have zz:w5.heap.size<(w5.alloc (.cells #[.bool s0,.slice ac (Wh.dig y0.natAbs).length capc] 106)).heap.size:=bt.size
  generalize w5.alloc (.cells #[.bool s0,.slice ac (Wh.dig y0.natAbs).length capc] 106)=w6 at *
  generalize (Wh.dig y0.natAbs).length=l0 at *
  clear p0 p1 g0 g1 x0
  go_region_held3 (fun W=>W.cell? ⟨w5.heap.size,0,none⟩=some (.bool s0)∧W.cell? ⟨w5.heap.size,1,none⟩=some (.slice ac l0 capc)) (first | (refine ⟨?_,?_⟩ <;> (first | (with_reducible exact aE (by assumption) (by assumption)) | (with_reducible exact Gr.aw (by assumption)) | (with_reducible refine Gr.bM (by assumption) ?_;(intro hh_;(try simp only [ui,aM,World.heap_drewN,aI] at hh_);omega)) | (with_reducible refine Gr.co (by assumption) ?_ ?_ <;> (intro hh_;(try simp only [ui,aM,World.heap_drewN,aI] at hh_);omega)) | exact aE (by assumption) (by assumption) | (with_reducible exact ar (by assumption) (by assumption) (by assumption)))) | (go_split_ands;(refine ⟨?_,?_⟩ <;> (first | (with_reducible exact aE (by assumption) (by assumption)) | (with_reducible exact Gr.aw (by assumption)) | (with_reducible refine Gr.bM (by assumption) ?_;(intro hh_;(try simp only [ui,aM,World.heap_drewN,aI] at hh_);omega)) | (with_reducible refine Gr.co (by assumption) ?_ ?_ <;> (intro hh_;(try simp only [ui,aM,World.heap_drewN,aI] at hh_);omega)) | exact aE (by assumption) (by assumption) | (with_reducible exact ar (by assumption) (by assumption) (by assumption))))) | go_keep) ((first
   | (go_at_call 112;(with_reducible refine (PW.out _).mono ?_);rintro e w7 ⟨v7,rfl,ho7,hb7⟩;(have ho7':aF _ _ _ (Wh.dig (1:Int).natAbs):=ho7);(have x0_:=aE hb7 (aW u0));(have x1_:=aE hb7 (aW u1));(have r7:=r6.drew.keep hb7);(have B7:=B6.drew.trans (hb7.mono B6.size));(have hoc7:=aF.below (aF.below hoc6 (uk _ _).drew) hb7);(have z7:w6.heap.size≤w7.heap.size:=hb7.size))
   | (go_at_call 145;(with_reducible refine (PA.out _ _ _ _ _ hoc7 ho7').mono ?_);rintro e w8 ⟨v8,rfl,ho8,hb8⟩;obtain ⟨a8,cap8,rfl,hm8,hv8⟩:=aF.view ho8;(have y0_:=aE hb8 x0_);(have y1_:=aE hb8 x1_);(have r8:=r7.keep hb8);(have p0:=r8.c0);(have p1:=r8.c1);(have g0:=r8.f0);(have g1:=r8.f1);(have B8:=B7.trans (hb8.mono B7.size));(clear hv8 hm8))
   | fail "ARMS"))
  all_goals
   have hr:=cH (w:=w) (w.heap.size+1) _ (.bool s) (by omega) r7.size ho8 B8
   generalize (Wh.dig z.natAbs).length=n2_ at *
   go_wp2
   have hwz:IntKind.i64.wrap (n - rr)=n - rr:=by
    rw [IntKind.wrap_i64]
    omega
   exact bodyPost_ret (v:=.tuple #[.agg #[.bool s,.slice a8 n2_ cap8],.int .i64 (n - rr)]) (by simp [results,Tryz.results131,go_sem, *]) rfl (⟨_,by rw [hz2.out],hr.1,hr.2⟩)
 | succ j=>
 obtain ⟨ga,x,ea,hga,hxa,hca⟩:=hva.out j (by omega)
 subst ea
 have hca:=aE hwr hca
 have hr0:=hdi.r0
 have hlx:=hla.out x (List.mem_of_getElem? hxa.out)
 unfold Wh.lim at hlx
 have hS:=hdi.step hla.out hxa.out hn2
 have hy:=hS.1
 have t1:Int.tdiv (r*10000+x) n=(r*10000+x) / n:=Int.tdiv_eq_ediv_of_nonneg hy.1
 have t2:Int.tmod (r*10000+x) n=(r*10000+x) % n:=Int.tmod_eq_emod_of_nonneg hy.1
 have hpl:=hdi.len
 have hqk:q[j]?=some q[j]:=List.getElem?_eq_getElem (by omega)
 have hc0:=aF.cellAt hpl.symm hown hqk
 have hf0:wr.frozen? ⟨w3.heap.size,j,none⟩=false:=eS hpl hown j
 have hO:=uh (aF.set (j:=j) hpl.symm hown ((r*10000+x) / n) rfl)
 have hS2:=uh hS.2
 have hbs2:=uh hbr
 have f2:=c1.c1
 have hzq:w3.heap.size<wr.heap.size:=World.block_lt_of_cell? wr _ hc0
 have hdb:-1000000000000≤(r*10000+x) / n∧(r*10000+x) / n≤10000000000000000:=by
  have h1:=Int.ediv_nonneg hy.1 (show 0≤n by omega)
  have h2:=Int.ediv_le_self n hy.1
  omega
 have hmb:0≤(r*10000+x) % n∧(r*10000+x) % n<n:=⟨Int.emod_nonneg _ (by omega),Int.emod_lt_of_pos _ (by omega)⟩
 generalize q[j]=qj at *
 generalize (r*10000+x) / n=yq at *
 generalize (r*10000+x) % n=yr at *
 clear hS hdi hpl hqk hown c1 c2 hxa
 go_wp2
 go_roundw
 case rel=>exact ⟨j,_,_,by omega,by go_num,by go_num,hO.out.1,hS2.out,hbs2.out.setCell (ul _) _⟩
 case measure=>first | (simp [intOf];done) | (simp [intOf];omega)
namespace Wh
def bl (n:Nat):Nat:=if n=0 then 0 else Nat.log2 n+1
theorem rh:bl 0=0:=rfl
theorem j0 {n:Nat} (h:n≠0):bl n=bl (n / 2)+1:=by
 unfold bl
 rw [if_neg h,Nat.log2_def]
 by_cases h2:2≤n
 ·rw [if_pos h2,if_neg (by omega)]
 rw [if_neg h2,if_pos (by omega)]
theorem iZ:∀ (k n:Nat),2 ^ k≤n→bl n=bl (n / 2 ^ k)+k
 | 0,n,_=>by simp
 | k+1,n,h=>by
  have hp:0<2 ^ k:=Nat.pow_pos (by decide)
  have h1:2 ^ k≤n / 2:=by
   rw [Nat.pow_succ] at h
   exact (Nat.le_div_iff_mul_le (by decide)).2 h
  rw [j0 (n:=n) (by rw [Nat.pow_succ] at h;omega),iZ k (n / 2) h1,Nat.div_div_eq_div_mul,Nat.pow_succ,Nat.mul_comm 2]
  omega
theorem p9 (n:Nat) (h:n<18446744073709551616):Lib.bitLen n=bl n:=by
 induction n using Nat.strongRecOn with
 | ind n ih=>
 by_cases h0:n=0
 ·subst h0;rfl
 rw [Lib.bitLen_half n h0 h,j0 h0,ih (n / 2) (by omega) (by omega)]
 omega
theorem mL {l:List Int} (h:bG l) (k:Nat):val (l.drop k)≤val l:=by
 have e:=ej (l.take k) (l.drop k)
 rw [List.take_append_drop] at e
 have h1:=cc (eM h k)
 have h2:=cc (gU h k)
 have h3:=Int.mul_le_mul_of_nonneg_right (show (1:Int)≤10000 ^ (l.take k).length by have:=pow_pos (l.take k).length;omega) h2
 omega
theorem nX {n k:Nat} (h:k<(dig n).length):10000 ^ k≤n:=by
 by_cases h':n<10000 ^ k
 ·have:=dE h';omega
 omega
theorem gO {n k:Nat} (h:(dig n).length≤k):(n:Int)<10000 ^ k:=by
 have h1:=eB (ai n)
 rw [bI] at h1
 have:=gY h
 omega
end Wh
theorem aF.past {w:World} {base c:Nat} {sl:Value} {xs:List Int} (h:aF w base sl xs) (hc:c<base) (u v:Value):aF ((w.setCell ⟨c,0,none⟩ u).setCell ⟨c,1,none⟩ v) base sl xs:=by
 refine World.ownsRow.kept h (cP w c u v) ?_
 cases hs:sl.ownBlock with
 | none=>exact Or.inl rfl
 | some g=>
 right
 intro e
 injection e with e
 have:=(aF.lt h g hs).1
 omega
theorem gl (a:Int) (sl:Value) (w:World) (base:Nat) (ho:ae w base sl a) (hl:(Wh.dig a.natAbs).length≤1000000) :
  Calls Tryz.prog 154 #[.agg #[.bool (decide (a<0)),sl]] w fun e w'=>∃ sl',e=.returned (.agg #[.bool false,sl'])∧aF w' w.heap.size sl' (Wh.dig a.natAbs)∧Below w.heap.size w w':=by
 refine (mT a sl w base ho hl).mono fun e w' ⟨sl',h1,h2,h3⟩=>⟨sl',?_,?_,h3⟩
 ·rw [h1,decide_eq_false (show ¬ ((a.natAbs:Int)<0) by omega)]
 unfold ae at h2
 rwa [Int.natAbs_natCast] at h2
theorem gq (m n:Nat) (va:Value) (w:World) (ba:Nat) (hoa:aF w ba va (Wh.dig m)) (hl:(Wh.dig m).length≤9000) (hn1:1≤n) (hn2:n≤1000000000000) :
  Calls Tryz.prog 151 #[.agg #[.bool false,va],.int .i64 (n:Int)] w fun e w'=>∃ sl,e=.returned (.tuple #[.agg #[.bool false,sl],.int .i64 ((m % n:Nat):Int)])∧aF w' w.heap.size sl (Wh.dig (m / n))∧Below w.heap.size w w':=by
 have h:=fh (m:Int) (n:Int) va w ba (by unfold ae;rwa [Int.natAbs_natCast]) (by rwa [Int.natAbs_natCast]) (by omega) (by omega)
 rw [decide_eq_false (show ¬ ((m:Int)<0) by omega)] at h
 refine h.mono fun e w' ⟨sl',h1,h2,h3⟩=>⟨sl',?_,?_,h3⟩
 ·rw [h1,decide_eq_false (show ¬ ((m:Int) / (n:Int)<0) by have:=Int.ediv_nonneg (a:=(m:Int)) (b:=(n:Int)) (by omega) (by omega);omega),←Int.natCast_emod]
 unfold ae at h2
 rwa [←Int.natCast_ediv,Int.natAbs_natCast] at h2
theorem ko (a:Int) (va:Value) (w:World) (ba:Nat) (hoa:ae w ba va a) (hl:(Wh.dig a.natAbs).length≤9000) (hbl:Wh.bl a.natAbs≤1000000) :
  Calls Tryz.prog 137 #[.agg #[.bool (decide (a<0)),va]] w fun e w'=>e=.returned (.int .i64 (Wh.bl a.natAbs:Nat))∧Below w.heap.size w w':=by
 obtain ⟨aa,capa,rfl,-,-⟩:=aF.view hoa
 have PA:=fun W (h:aF W ba (.slice aa (Wh.dig a.natAbs).length capa) (Wh.dig a.natAbs))=>gl a (.slice aa (Wh.dig a.natAbs).length capa) W ba h (by omega)
 have PD:=fun (m:Nat) (hm:(Wh.dig m).length≤9000) va W b (h:aF W b va (Wh.dig m))=>gq m 67108864 va W b h hm (by omega) (by omega)
 rw [show ((67108864:Nat):Int)=67108864 from rfl] at PD
 replace PD:=uh PD
 generalize decide (a<0)=s1 at *
 replace hoa:=uh (show aF _ _ _ _ from hoa)
 generalize a.natAbs=N at *
 have b1:=af.new w (.bool s1) (.slice aa (Wh.dig N).length capa) 106
 have hB:=(uk w.heap.size w).alloc (ul _) (.cells #[.bool s1,.slice aa (Wh.dig N).length capa] 106)
 have ho1:=aF.alloc hoa.out (.cells #[.bool s1,.slice aa (Wh.dig N).length capa] 106)
 generalize hw3:w.alloc (.cells #[.bool s1,.slice aa (Wh.dig N).length capa] 106)=w3 at *
 replace PA:=uh PA
 have e1:=b1.c0
 have e2:=b1.c1
 have hz3:=b1.size
 go_enter Tryz.func137,Tryz.ntmps137
 go_wp2_with (go_at_call 154;(with_reducible refine (PA.out _ ho1).mono ?_);rintro e w4 ⟨v4,rfl,ho4,hb4⟩;obtain ⟨a4,cap4,rfl,hm4,hv4⟩:=aF.view ho4;(have r4:=b1.keep hb4);(have c0:=r4.c0);(have c1:=r4.c1);(have g0:=r4.f0);(have g1:=r4.f1);(clear hv4 hm4))
 have rs:=r4.store (.bool false) (.slice a4 (Wh.dig N).length cap4)
 have os:=aF.past (aF.base (base':=w.heap.size+1) ho4 (by omega)) (Nat.lt_succ_self _) (.bool false) (.slice a4 (Wh.dig N).length cap4)
 have Bs:=((hB.trans (hb4.mono hB.size)).setCell (p:=⟨w.heap.size,0,none⟩) (ul _) (.bool false)).setCell (p:=⟨w.heap.size,1,none⟩) (ul _) (.slice a4 (Wh.dig N).length cap4)
 clear r4 c0 c1 g0 g1 e1 e2 ho4 hb4 b1 hB ho1
 go_loopw [3] (fun vb wr=>∃ (m c:Nat) (ax:Option Addr) (cx:Nat),vb=.int .i64 c∧c+Wh.bl m=Wh.bl N∧(Wh.dig m).length≤(Wh.dig N).length∧Hid (af wr w.heap.size (.bool false) (.slice ax (Wh.dig m).length cx))∧aF wr (w.heap.size+1) (.slice ax (Wh.dig m).length cx) (Wh.dig m)∧Below w.heap.size w wr) (fun vb _=>Wh.bl N - (intOf vb).toNat)
 case atStart=>exact ⟨N,0,a4,cap4,rfl,Nat.zero_add _,ul _,uh rs,os,Bs⟩
 case round=>
 clear rs os Bs
 obtain ⟨m,c,ax,cx,rfl,hc,hml,bxr,hown,hbr⟩:=hrel
 have c0:=bxr.out.c0
 have c1:=bxr.out.c1
 have hzr:=bxr.out.size
 by_cases h2:2<(Wh.dig m).length
 ·have hbig:=Wh.nX h2
  have hsh:=Wh.iZ 26 m (by omega)
  rw [show 2 ^ 26=67108864 from rfl] at hsh
  have hml2:=Wh.dc (Nat.div_le_self m 67108864)
  have PX:=PD.out m (by omega)
  have PX:=uh PX
  generalize m / 67108864=m2 at *
  generalize m % 67108864=rr at *
  have hown:=uh hown
  clear hbig
  generalize hlm:(Wh.dig m).length=lm at *
  go_wp2_with (go_at_call 151;(with_reducible refine (PX.out _ _ _ hown.out).mono ?_);rintro e w5 ⟨v5,rfl,ho5,hb5⟩;obtain ⟨a5,cap5,rfl,hm5,hv5⟩:=aF.view ho5;(have r5:=bxr.out.keep hb5);(have d0:=r5.c0);(have d1:=r5.c1);(have g0:=r5.f0);(have g1:=r5.f1);(clear hv5 hm5))
  go_roundw
  case rel=>exact ⟨m2,c+26,a5,cap5,by go_num,by omega,by omega,uh (r5.store _ _),aF.past (aF.base ho5 (by omega)) (Nat.lt_succ_self _) _ _,((hbr.trans (hb5.mono hbr.size)).setCell (ul _) _).setCell (ul _) _⟩
  case measure=>simp [intOf];omega
 have hsm:=Wh.gO (n:=m) (k:=2) (by omega)
 have hm8:(m:Int)≤99999999:=by
  have:(10000:Int) ^ 2=100000000:=by decide
  omega
 have hld:=uh (Wh.ai m)
 have hvd:=uh (Wh.bI m)
 have PB:=fun W=>Tryz.bits_Len (m:Int) W (by omega) (by omega)
 rw [Int.toNat_natCast,Wh.p9 m (by omega)] at PB
 have hc2:=uh hc
 have hbm:Wh.bl m≤Wh.bl N:=by omega
 obtain ⟨ad,capd,ed,hmd,hvs⟩:=aF.seen hown
 injection ed with e1 e2 e3
 subst e1 e3
 replace hvs:=uh hvs
 clear hsm hml hown PD hc hmd e2
 have hb0:Hid (m=0→Wh.bl m=0):=uh fun h=>by rw [h];rfl
 generalize Wh.bl m=bm at *
 generalize Wh.dig m=ds at *
 replace PB:=uh PB
 have hln:ds.length≤2:=by omega
 clear h2
 go_wp2
 go_loopw [4,5] (fun vn vi wq=>∃ (k:Nat),k≤ds.length∧vi=.int .i64 ((k:Int) - 1)∧vn=.int .i64 (Wh.val (ds.drop k))∧Below wr.heap.size wr wq) (fun _ vi _=>(intOf vi+1).toNat)
 case atStart=>exact ⟨ds.length,ul _,rfl,by rw [List.drop_length];rfl,uk _ _⟩
 case round=>
 obtain ⟨k,hk,rfl,rfl,hbq⟩:=hrel
 have f1:=aE hbq c1
 have hdn:=Wh.cc (Wh.gU hld.out k)
 have hdl:=Wh.mL hld.out k
 rw [hvd.out] at hdl
 cases k with
 | zero=>
  have hv0:Wh.val (ds.drop 0)=m:=by rw [List.drop_zero];exact hvd.out
  rw [hv0]
  clear hv0 hdn hdl
  by_cases hm0:m=0
  ·have hcn:Hid (Wh.bl N=c):=uh (by have:=hc2.out;have:=hb0.out hm0;omega)
   subst hm0
   go_wp2
   go_ret
   exact ⟨by rw [hcn.out] <;> rfl,hbr.trans (hbq.mono hbr.size)⟩
  have hcn:Hid (((Wh.bl N:Nat):Int)=(c:Int)+bm):=uh (by have:=hc2.out;omega)
  have hcb:c≤1000000:=by have:=hc2.out;omega
  have hm1:0<(m:Int):=by omega
  go_wp2_with (go_at_call 139;(refine (PB.out _).mono ?_);rintro e w6 ⟨rfl,rfl⟩)
  go_ret
  exact ⟨by rw [hcn.out] <;> rfl,hbr.trans (hbq.mono hbr.size)⟩
 | succ j=>
 obtain ⟨gx,x,ex,hgx,hxx,hcx⟩:=hvs.out j (by omega)
 subst ex
 have hcx:=aE hbq hcx
 have hvj:=Wh.jO hxx.out
 have hlx:=hld.out x (List.mem_of_getElem? hxx.out)
 unfold Wh.lim at hlx
 have hvj2:=uh (show Wh.val (ds.drop j)=Wh.val (ds.drop (j+1))*10000+x by rw [hvj];omega)
 have hbv:Wh.val (ds.drop (j+1))≤100000000:=by omega
 clear hvj hxx hdl
 generalize Wh.val (ds.drop (j+1))=v1 at *
 go_wp2
 go_roundw
 case rel=>exact ⟨j,by omega,by go_num,by rw [hvj2.out],hbq⟩
 case measure=>first | (simp [intOf];done) | (simp [intOf];omega)
theorem oV (N:Nat) (v:Value) (w:World) (base:Nat) (hown:aF w base v (Wh.dig N)) (hl:(Wh.dig N).length≤1000000) :
  Calls Tryz.prog 133 #[.bool false,v] w fun e w'=>∃ sl,e=.returned (.agg #[.bool false,sl])∧aF w' w.heap.size sl (Wh.dig N)∧Below w.heap.size w w':=by
 have h:=fJ (N:Int) false (Wh.dig N) v w base hown (Wh.ai N) hl (by rw [Wh.bI];rfl)
 refine h.mono fun e w' ⟨sl',h1,h2,h3⟩=>⟨sl',?_,?_,h3⟩
 ·rw [h1,decide_eq_false (show ¬ ((N:Int)<0) by omega)]
 unfold ae at h2
 rwa [Int.natAbs_natCast] at h2
theorem oX (m n:Nat) (va:Value) (w:World) (ba:Nat) (hoa:aF w ba va (Wh.dig m)) (hl:(Wh.dig m).length≤9000) (hn1:1≤n) (hn2:n≤1000000000000) :
  Calls Tryz.prog 131 #[.agg #[.bool false,va],.int .i64 (n:Int)] w fun e w'=>∃ sl,e=.returned (.tuple #[.agg #[.bool false,sl],.int .i64 ((m % n:Nat):Int)])∧aF w' w.heap.size sl (Wh.dig (m / n))∧Below w.heap.size w w':=by
 have h:=dq (m:Int) (n:Int) va w ba (by unfold ae;rwa [Int.natAbs_natCast]) (by rwa [Int.natAbs_natCast]) (by omega) (by omega)
 rw [decide_eq_false (show ¬ ((m:Int)<0) by omega)] at h
 refine h.mono fun e w' ⟨sl',h1,h2,h3⟩=>⟨sl',?_,?_,h3⟩
 ·rw [h1,decide_eq_false (show ¬ ((m:Int) / (n:Int)<0) by have:=Int.ediv_nonneg (a:=(m:Int)) (b:=(n:Int)) (by omega) (by omega);omega),←Int.natCast_emod]
 unfold ae at h2
 rwa [←Int.natCast_ediv,Int.natAbs_natCast] at h2
theorem Wh.qz {m:Nat} (h:(dig m).length≤1):nth (dig m) 0=m:=by
 have hv:=bI m
 cases hd:dig m with
 | nil=>rw [hd] at hv;rw [←hv];rfl
 | cons x l=>
 rw [hd] at h hv
 cases l with
 | nil=>rw [←hv];show x=x+10000*0;omega
 | cons y t=>simp at h
theorem iX (a:Int) (va:Value) (w:World) (ba:Nat) (hoa:ae w ba va a) (hl:(Wh.dig a.natAbs).length≤9000) (hbl:Wh.bl a.natAbs≤1000000) :
  Calls Tryz.prog 110 #[.agg #[.bool (decide (a<0)),va]] w fun e w'=>e=.returned (.int .i64 (Wh.bl a.natAbs:Nat))∧Below w.heap.size w w':=by
 obtain ⟨aa,capa,rfl,-,-⟩:=aF.view hoa
 have PA:=fun W (h:aF W ba (.slice aa (Wh.dig a.natAbs).length capa) (Wh.dig a.natAbs))=>oV a.natAbs (.slice aa (Wh.dig a.natAbs).length capa) W ba h (by omega)
 have PD:=fun (m:Nat) (hm:(Wh.dig m).length≤9000) va W b (h:aF W b va (Wh.dig m))=>oX m 4096 va W b h hm (by omega) (by omega)
 rw [show ((4096:Nat):Int)=4096 from rfl] at PD
 replace PD:=uh PD
 have PL:=fun (m:Nat) va W b (h:aF W b va (Wh.dig m))=>eu (Wh.dig m) va 0 W b h
 rw [show ((0:Nat):Int)=0 from rfl] at PL
 replace PL:=uh PL
 generalize decide (a<0)=s1 at *
 replace hoa:=uh (show aF _ _ _ _ from hoa)
 generalize a.natAbs=N at *
 have b1:=af.new w (.bool s1) (.slice aa (Wh.dig N).length capa) 106
 have hB:=(uk w.heap.size w).alloc (ul _) (.cells #[.bool s1,.slice aa (Wh.dig N).length capa] 106)
 have ho1:=aF.alloc hoa.out (.cells #[.bool s1,.slice aa (Wh.dig N).length capa] 106)
 generalize hw3:w.alloc (.cells #[.bool s1,.slice aa (Wh.dig N).length capa] 106)=w3 at *
 replace PA:=uh PA
 have e2:=b1.c1
 have hz3:=b1.size
 go_enter Tryz.func110,Tryz.ntmps110
 go_wp2_with (go_at_call 133;(with_reducible refine (PA.out _ ho1).mono ?_);rintro e w4 ⟨v4,rfl,ho4,hb4⟩;obtain ⟨a4,cap4,rfl,hm4,hv4⟩:=aF.view ho4;(clear hv4 hm4))
 have rs:=af.new w4 (.bool false) (.slice a4 (Wh.dig N).length cap4) 106
 have os:=aF.alloc ho4 (.cells #[.bool false,.slice a4 (Wh.dig N).length cap4] 106)
 have B4:=hB.trans (hb4.mono hB.size)
 have Bs:=B4.alloc B4.size (.cells #[.bool false,.slice a4 (Wh.dig N).length cap4] 106)
 have hz4:=B4.size
 have ho4x:=uh ho4
 have hz34:=hb4.size
 clear e2 ho4 hb4 b1 hB ho1 B4
 have ne:(Value.slice a4 (Wh.dig N).length cap4).ownBlock≠some w4.heap.size:=fun e=>by
  have:=(aF.lt ho4x.out _ e).2
  omega
 clear ho4x
 go_loopw [3] (fun vb wr=>∃ (m c:Nat) (ax:Option Addr) (cx:Nat),vb=.int .i64 c∧c+Wh.bl m=Wh.bl N∧(Wh.dig m).length≤(Wh.dig N).length∧Hid (af wr w4.heap.size (.bool false) (.slice ax (Wh.dig m).length cx))∧Hid ((Value.slice ax (Wh.dig m).length cx).ownBlock≠some w4.heap.size)∧aF wr w3.heap.size (.slice ax (Wh.dig m).length cx) (Wh.dig m)∧Below w.heap.size w wr) (fun vb _=>Wh.bl N - (intOf vb).toNat)
 case atStart=>exact ⟨N,0,a4,cap4,rfl,Nat.zero_add _,ul _,uh rs,uh ne,os,Bs⟩
 case round=>
 clear rs os Bs ne
 obtain ⟨m,c,ax,cx,rfl,hc,hml,bxr,hne,hown,hbr⟩:=hrel
 have c0:=bxr.out.c0
 have c1:=bxr.out.c1
 have hzr:=bxr.out.size
 by_cases h2:1<(Wh.dig m).length
 ·have hbig:=Wh.nX h2
  have hsh:=Wh.iZ 12 m (by omega)
  rw [show 2 ^ 12=4096 from rfl] at hsh
  have hml2:=Wh.dc (Nat.div_le_self m 4096)
  have PX:=PD.out m (by omega)
  replace PX:=uh PX
  generalize m / 4096=m2 at *
  generalize m % 4096=rr at *
  replace hown:=uh hown
  clear hbig
  generalize hlm:(Wh.dig m).length=lm at *
  go_wp2_with (go_at_call 131;(with_reducible refine (PX.out _ _ _ hown.out).mono ?_);rintro e w5 ⟨v5,rfl,ho5,hb5⟩;obtain ⟨a5,cap5,rfl,hm5,hv5⟩:=aF.view ho5;(have r5:=bxr.out.keep hb5);(have d0:=r5.c0);(have d1:=r5.c1);(have g0:=r5.f0);(have g1:=r5.f1);(clear hv5 hm5))
  have ne5:(Value.slice a5 (Wh.dig m2).length cap5).ownBlock≠some w4.heap.size:=fun e=>by
   have:=(aF.lt ho5 _ e).1
   omega
  have hkp:=fun u v=>World.ownsRow.kept (aF.base (base':=w3.heap.size) ho5 (by omega)) (cP w5 w4.heap.size u v) (Or.inr ne5)
  go_roundw
  case rel=>exact ⟨m2,c+12,a5,cap5,by go_num,by omega,by omega,uh (r5.store _ _),uh ne5,hkp _ _,((hbr.trans (hb5.mono hbr.size)).setCell (by omega) _).setCell (by omega) _⟩
  case measure=>simp [intOf];omega
 have hsm:=Wh.gO (n:=m) (k:=1) (by omega)
 have hm8:(m:Int)≤9999:=by
  have:(10000:Int) ^ 1=10000:=by decide
  omega
 have PX:=PL.out m
 rw [Wh.qz (by omega)] at PX
 replace PX:=uh PX
 have hc2:=uh hc
 replace hown:=uh hown
 have hcb:c≤Wh.bl N:=by omega
 clear hsm hml PD hc
 go_wp2_with (go_at_call 134;(with_reducible refine (PX.out _ _ _ hown.out).mono ?_);rintro e w6 ⟨rfl,rfl⟩)
 go_loopw [3,5] (fun vb vn wq=>∃ (m2 c2:Nat),vb=.int .i64 c2∧vn=.int .i64 m2∧c2+Wh.bl m2=Wh.bl N∧m2≤9999∧Below w.heap.size w wq) (fun _ vn _=>(intOf vn).toNat)
 case atStart=>exact ⟨m,c,rfl,rfl,hc2.out,by omega,hbr⟩
 case round=>
 obtain ⟨m2,c2,rfl,rfl,hcc,hm9,hbq⟩:=hrel
 by_cases hm0:m2=0
 ·have hcn:Hid (Wh.bl N=c2):=uh (by rw [hm0] at hcc;have:=Wh.rh;omega)
  subst hm0
  clear hcc
  go_wp2
  go_ret
  exact ⟨by rw [hcn.out] <;> rfl,hbq⟩
 have hh:=Wh.j0 hm0
 have t2:Int.tdiv (m2:Int) 2=((m2 / 2:Nat):Int):=by rw [Int.tdiv_eq_ediv_of_nonneg (by omega)];omega
 have hm1:0<(m2:Int):=by omega
 have hlt:m2 / 2<m2:=by omega
 have hcb2:c2≤Wh.bl N:=by omega
 have hcc2:Hid (c2+1+Wh.bl (m2 / 2)=Wh.bl N):=uh (by omega)
 clear hcc hh
 generalize m2 / 2=m3 at *
 go_wp2
 go_roundw
 case rel=>exact ⟨m3,c2+1,by go_num,by go_num,hcc2.out,by omega,hbq⟩
 case measure=>simp [intOf];omega
namespace Wh
theorem mJ:∀ l:List Int,(trim l).length≤l.length
 | []=>ul _
 | x :: l=>by
  have ih:=mJ l
  show (match trim l with
   | []=>if x=0 then [] else [x]
   | y :: t=>x :: y :: t).length≤(x :: l).length
  split
  ·split <;> simp
  rename_i y t h
  rw [h] at ih
  simpa using ih
theorem ky {m n:Nat} (h:(dig m).length=n+1):∃ x,(dig m)[n]?=some x∧0<x:=by
 have hx:(dig m)[n]?=some (dig m)[n]:=List.getElem?_eq_getElem (by omega)
 refine ⟨_,hx,?_⟩
 have h0:=(ai m _ (List.mem_of_getElem? hx)).1
 by_cases hz:(dig m)[n]=0
 ·have ht:=qI m
  have hs:dig m=(dig m).take n ++ [0]:=by
   have:=(List.take_append_drop n (dig m)).symm
   rw [List.drop_eq_getElem_cons (by omega),hz,List.drop_eq_nil_of_le (by omega)] at this
   exact this
  rw [hs,gj] at ht
  have h1:=mJ ((dig m).take n)
  rw [ht,List.length_append,List.length_take] at h1
  simp at h1
  omega
 omega
end Wh
theorem je (z:Int) (va:Value) (w:World) (ba:Nat) (ho:ae w ba va z) (hl:(Wh.dig z.natAbs).length≤100000) :
  Calls Tryz.prog 158 #[.agg #[.bool (decide (z<0)),va]] w fun e w'=>e=.returned (.bool (decide ((Wh.dig z.natAbs).length≤400)))∧Below w.heap.size w w':=by
 obtain ⟨aa,capa,rfl,hma,hva⟩:=aF.seen ho
 have hva:=uh hva
 have hla:=uh (Wh.ai z.natAbs)
 have hls:=fun n h=>Wh.ky (m:=z.natAbs) (n:=n) h
 have hz0:Hid ((Wh.dig z.natAbs).length=0→decide (z<0)=false):=uh fun h=>by
  have:=Wh.fO.1 (List.length_eq_zero_iff.1 h)
  exact decide_eq_false (by omega)
 clear hma ho
 generalize decide (z<0)=s1 at *
 generalize Wh.dig z.natAbs=xs at *
 have hls:=uh hls
 have b1:=af.new w (.bool s1) (.slice aa xs.length capa) 106
 have hB:=(uk w.heap.size w).alloc (ul _) (.cells #[.bool s1,.slice aa xs.length capa] 106)
 by_cases h4:xs.length≤400
 ·rw [decide_eq_true h4]
  generalize hw3:w.alloc (.cells #[.bool s1,.slice aa xs.length capa] 106)=w3 at *
  have e1:=b1.c0
  have e2:=b1.c1
  by_cases hn:xs.length=0
  ·have hs:=hz0.out hn
   subst hs
   have hn1:=uh hn
   rw [hn] at e2 hw3 ⊢
   clear hn hls hz0 b1 hl h4
   go_enter Tryz.func158,Tryz.ntmps158
   go_wp2
   clear e1 e2
   go_loopw [5,35] (fun _ vi wr=>∃ k:Nat,k≤0∧vi=.int .i64 k∧Below w3.heap.size w3 wr) (fun _ vi _=>0 - (intOf vi).toNat)
   case atStart=>exact ⟨0,Nat.zero_le _,rfl,uk _ _⟩
   case round=>
   obtain ⟨k,hk,rfl,hbr⟩:=hrel
   by_cases hlt:k<0
   ·obtain ⟨gb,y,eb,hgb,hyb,hcb⟩:=hva.out k (by rw [hn1.out];exact hlt)
    exact absurd hlt (Nat.not_lt_zero _)
   obtain rfl:k=0:=by omega
   go_wp2
   go_ret
   exact ⟨rfl,hB.trans (hbr.mono hB.size)⟩
  obtain ⟨n,hn1⟩:∃ n,xs.length=n+1:=⟨xs.length - 1,by omega⟩
  obtain ⟨x,hx,hx0⟩:=hls.out n hn1
  obtain ⟨ga,x',ea,hga,hxa,hca⟩:=hva.out n (by omega)
  subst ea
  obtain rfl:=Option.some.inj (hx.symm.trans hxa.out)
  have hca3:=hB.cell (p:=⟨ga,n,none⟩) hga
  have hca2:=hca3.trans hca
  have hxn:¬ x=0:=by omega
  have h4':n+1≤400:=by omega
  have hd1:decide (400<(n:Int)+1)=false:=decide_eq_false (by omega)
  have hd2:(x == 0)=false:=beq_eq_false_iff_ne.2 hxn
  have hd3:((n:Int)+1 == 0)=false:=beq_eq_false_iff_ne.2 (by omega)
  rw [hn1] at e2 hw3 ⊢
  replace hn1:=uh hn1
  clear hca hca3 hx hn hxa hls hz0 b1 hl h4
  go_enter Tryz.func158,Tryz.ntmps158
  go_wp2
  clear e1 e2 hca2 hxn hx0 hd1 hd2 hd3
  go_loopw [5,35] (fun _ vi wr=>∃ k:Nat,k≤n+1∧vi=.int .i64 k∧Below w3.heap.size w3 wr) (fun _ vi _=>n+1 - (intOf vi).toNat)
  case atStart=>exact ⟨0,Nat.zero_le _,rfl,uk _ _⟩
  case round=>
  obtain ⟨k,hk,rfl,hbr⟩:=hrel
  by_cases hlt:k<n+1
  ·obtain ⟨gb,y,eb,hgb,hyb,hcb⟩:=hva.out k (by rw [hn1.out];exact hlt)
   obtain rfl:ga=gb:=by simpa using eb
   have hcb:=((hB.trans (hbr.mono hB.size)).cell (p:=⟨ga,k,none⟩) hgb).trans hcb
   have hly:=hla.out y (List.mem_of_getElem? hyb.out)
   have PI:=fun W=>cr y 0 9999 W
   rw [show M.ins y 0 9999=true by unfold M.ins;unfold Wh.lim at hly;simp;omega] at PI
   replace PI:=uh PI
   clear hyb hly
   go_wp2_with (go_at_call 36;(with_reducible refine (PI.out _).mono ?_);rintro e w5 ⟨rfl,rfl⟩)
   go_roundw
   case rel=>exact ⟨k+1,by omega,by go_num,hbr⟩
   case measure=>simp [intOf];omega
  obtain rfl:k=n+1:=by omega
  go_wp2
  go_ret
  exact ⟨rfl,hB.trans (hbr.mono hB.size)⟩
 rw [decide_eq_false h4]
 go_enter Tryz.func158,Tryz.ntmps158
 go_wp2
 go_ret
 exact ⟨rfl,hB⟩
theorem lR (l:List Int) (v:Value) (w:World) (base:Nat) (hown:aF w base v l) (h:Wh.bG l) (hl:l.length≤100000) :
  Calls Tryz.prog 156 #[v,.int .i64 0,.int .i64 9999] w fun e w'=>e=.returned (.bool true)∧Below w.heap.size w w':=by
 obtain ⟨a,cap,rfl,hm,hv⟩:=hown.seen
 have hv:=uh hv
 have h:=uh h
 clear hm hown
 go_enter Tryz.func156,Tryz.ntmps156
 go_wp2
 go_loopw [8,11] (fun _ vi wr=>∃ k:Nat,k≤l.length∧vi=.int .i64 k∧Below w.heap.size w wr) (fun _ vi _=>l.length - (intOf vi).toNat)
 case atStart=>exact ⟨0,Nat.zero_le _,rfl,uk _ _⟩
 case round=>
 obtain ⟨k,hk,rfl,hbr⟩:=hrel
 by_cases hlt:k<l.length
 ·obtain ⟨g,y,rfl,hg,hy,hcell⟩:=hv.out k hlt
  have hc:=aE hbr hcell
  have hly:=h.out y (List.mem_of_getElem? hy.out)
  have PI:=fun W=>dQ y 0 9999 W
  rw [show M.ins y 0 9999=true by unfold M.ins;unfold Wh.lim at hly;simp;omega] at PI
  replace PI:=uh PI
  clear hcell hy hly
  go_wp2_with (go_at_call 19;(with_reducible refine (PI.out _).mono ?_);rintro e w5 ⟨rfl,rfl⟩)
  go_roundw
  case rel=>exact ⟨k+1,by omega,by go_num,hbr⟩
  case measure=>simp [intOf];omega
 obtain rfl:k=l.length:=by omega
 go_wp2
 go_ret
 exact ⟨rfl,hbr⟩
theorem km (z:Int) (va:Value) (w:World) (ba:Nat) (ho:ae w ba va z) (hl:(Wh.dig z.natAbs).length≤100000) :
  Calls Tryz.prog 146 #[.agg #[.bool (decide (z<0)),va]] w fun e w'=>e=.returned (.bool (decide ((Wh.dig z.natAbs).length≤400)))∧Below w.heap.size w w':=by
 obtain ⟨aa,capa,rfl,hma,hva⟩:=aF.seen ho
 have hva:=uh hva
 have PL:=fun W (h:aF W ba (.slice aa (Wh.dig z.natAbs).length capa) (Wh.dig z.natAbs))=>lR (Wh.dig z.natAbs) (.slice aa (Wh.dig z.natAbs).length capa) W ba h (Wh.ai _) hl
 have hoo:=uh (show aF w ba (.slice aa (Wh.dig z.natAbs).length capa) (Wh.dig z.natAbs) from ho)
 have hls:=fun n h=>Wh.ky (m:=z.natAbs) (n:=n) h
 have hz0:Hid ((Wh.dig z.natAbs).length=0→decide (z<0)=false):=uh fun h=>by
  have:=Wh.fO.1 (List.length_eq_zero_iff.1 h)
  exact decide_eq_false (by omega)
 clear hma ho
 generalize decide (z<0)=s1 at *
 generalize Wh.dig z.natAbs=xs at *
 replace PL:=uh PL
 replace hls:=uh hls
 have b1:=af.new w (.bool s1) (.slice aa xs.length capa) 106
 have hB:=(uk w.heap.size w).alloc (ul _) (.cells #[.bool s1,.slice aa xs.length capa] 106)
 by_cases h4:xs.length≤400
 ·rw [decide_eq_true h4]
  have ho3:=aF.alloc hoo.out (.cells #[.bool s1,.slice aa xs.length capa] 106)
  generalize hw3:w.alloc (.cells #[.bool s1,.slice aa xs.length capa] 106)=w3 at *
  have PX:=PL.out w3 ho3
  have e1:=b1.c0
  have e2:=b1.c1
  have bh:=uh b1
  by_cases hn:xs.length=0
  ·have hs:=hz0.out hn
   subst hs
   rw [hn] at e2 hw3 PX ⊢
   replace PX:=uh PX
   rw [hn] at bh
   clear hn hls hz0 b1 hl h4 ho3
   go_enter Tryz.func146,Tryz.ntmps146
   go_wp2_with (go_at_call 156;(with_reducible refine (PX.out).mono ?_);rintro e w5 ⟨rfl,hb5⟩;(have c5:=bh.out.keep hb5);(have f1:=c5.c0);(have f2:=c5.c1))
   go_ret
   exact ⟨rfl,hB.trans (hb5.mono hB.size)⟩
  obtain ⟨n,hn1⟩:∃ n,xs.length=n+1:=⟨xs.length - 1,by omega⟩
  obtain ⟨x,hx,hx0⟩:=hls.out n hn1
  obtain ⟨ga,x',ea,hga,hxa,hca⟩:=hva.out n (by omega)
  subst ea
  obtain rfl:=Option.some.inj (hx.symm.trans hxa.out)
  have hca3:=hB.cell (p:=⟨ga,n,none⟩) hga
  have hca2:=hca3.trans hca
  have h4':n+1≤400:=by omega
  have hd1:decide ((n:Int)+1≤400)=true:=decide_eq_true (by omega)
  have hd3:((n:Int)+1 == 0)=false:=beq_eq_false_iff_ne.2 (by omega)
  have hd4:decide (0<x)=true:=decide_eq_true hx0
  rw [hn1] at e2 hw3 PX bh ⊢
  replace hn1:=uh hn1
  replace PX:=uh PX
  clear hca hca3 hx hn hxa hls hz0 b1 hl h4 ho3
  go_enter Tryz.func146,Tryz.ntmps146
  go_wp2_with (go_at_call 156;(with_reducible refine (PX.out).mono ?_);rintro e w5 ⟨rfl,hb5⟩;(have c5:=bh.out.keep hb5);(have f1:=c5.c0);(have f2:=c5.c1);(have f3:=aE hb5 hca2))
  go_ret
  exact ⟨rfl,hB.trans (hb5.mono hB.size)⟩
 rw [decide_eq_false h4]
 go_enter Tryz.func146,Tryz.ntmps146
 go_wp2
 go_ret
 exact ⟨rfl,hB⟩
theorem fZ (a:Int) (n:Nat) (va:Value) (w:World) (ba:Nat) (hoa:ae w ba va a) (hl:(Wh.dig a.natAbs).length≤9000) (hn1:1≤n) (hn2:n≤1000000000000) :
  Calls Tryz.prog 157 #[.agg #[.bool (decide (a<0)),va],.int .i64 (n:Int)] w fun e w'=>e=.returned (.int .i64 (Nat.gcd (a.natAbs % n) n:Nat))∧Below w.heap.size w w':=by
 obtain ⟨aa,capa,rfl,-,-⟩:=aF.view hoa
 have PA:=fun W (h:aF W ba (.slice aa (Wh.dig a.natAbs).length capa) (Wh.dig a.natAbs))=>gl a (.slice aa (Wh.dig a.natAbs).length capa) W ba h (by omega)
 have PD:=fun va W b (h:aF W b va (Wh.dig a.natAbs))=>gq a.natAbs n va W b h hl hn1 hn2
 have hlt:a.natAbs % n<n:=Nat.mod_lt _ (by omega)
 have PG:=fun W=>ik ((a.natAbs % n:Nat):Int) (n:Int) W (by omega) (by omega) (by omega) (by omega)
 rw [show M.gcd ((a.natAbs % n:Nat):Int) (n:Int)=((Nat.gcd (a.natAbs % n) n:Nat):Int) from rfl] at PG
 replace hoa:=uh (show aF _ _ _ _ from hoa)
 generalize decide (a<0)=s1 at *
 generalize Nat.gcd (a.natAbs % n) n=g at *
 generalize a.natAbs % n=r at *
 generalize a.natAbs / n=q at *
 generalize a.natAbs=N at *
 have b1:=af.new w (.bool s1) (.slice aa (Wh.dig N).length capa) 106
 have hB:=(uk w.heap.size w).alloc (ul _) (.cells #[.bool s1,.slice aa (Wh.dig N).length capa] 106)
 have ho1:=aF.alloc hoa.out (.cells #[.bool s1,.slice aa (Wh.dig N).length capa] 106)
 generalize hw3:w.alloc (.cells #[.bool s1,.slice aa (Wh.dig N).length capa] 106)=w3 at *
 have e1:=b1.c0
 have e2:=b1.c1
 replace PA:=uh PA
 replace PD:=uh PD
 replace PG:=uh PG
 go_enter Tryz.func157,Tryz.ntmps157
 go_wp2_with (first
  | (go_at_call 154;(with_reducible refine (PA.out _ ho1).mono ?_);rintro e w4 ⟨v4,rfl,ho4,hb4⟩)
  | (go_at_call 151;(with_reducible refine (PD.out _ _ _ ho4).mono ?_);rintro e w5 ⟨v5,rfl,ho5,hb5⟩;obtain ⟨a5,cap5,rfl,hm5,hv5⟩:=aF.view ho5;(clear hv5 hm5))
  | (go_at_call 57;(with_reducible refine (PG.out _).mono ?_);rintro e w6 ⟨rfl,m6,rfl⟩))
 go_ret
 have B4:=hB.trans (hb4.mono hB.size)
 have B5:=B4.trans (hb5.mono B4.size)
 exact ⟨rfl,aK (B5.alloc B5.size _) _⟩
structure gK (w:World) (b:Nat) (u v x y:Value):Prop where
 c0:w.cell? ⟨b,0,none⟩=some u
 c1:w.cell? ⟨b,1,none⟩=some v
 c2:w.cell? ⟨b,2,none⟩=some x
 c3:w.cell? ⟨b,3,none⟩=some y
 f0:w.frozen? ⟨b,0,none⟩=false
 f1:w.frozen? ⟨b,1,none⟩=false
 f2:w.frozen? ⟨b,2,none⟩=false
 f3:w.frozen? ⟨b,3,none⟩=false
 size:b<w.heap.size
theorem gK.keep {w w':World} {b:Nat} {u v x y:Value} (h:gK w b u v x y) (hb:Below w.heap.size w w'):gK w' b u v x y:=
 have hg:=cK hb none
 ⟨hg.cell h.c0 (by simp),hg.cell h.c1 (by simp),hg.cell h.c2 (by simp),hg.cell h.c3 (by simp),(Gr.frozen hg h.size (by simp)).trans h.f0,(Gr.frozen hg h.size (by simp)).trans h.f1,(Gr.frozen hg h.size (by simp)).trans h.f2,(Gr.frozen hg h.size (by simp)).trans h.f3,Gr.jI hg h.size⟩
theorem gK.new (w:World) (u v x y:Value) (T:TypeId):gK (w.alloc (.cells #[u,v,x,y] T)) w.heap.size u v x y:=
 ⟨by rw [World.cell?_alloc_at _ _ _ _ rfl];rfl,by rw [World.cell?_alloc_at _ _ _ _ rfl];rfl,by rw [World.cell?_alloc_at _ _ _ _ rfl];rfl,by rw [World.cell?_alloc_at _ _ _ _ rfl];rfl,by simp [go_sem],by simp [go_sem],by simp [go_sem],by simp [go_sem],by rw [ui];omega⟩
namespace Wh
def cR (x z:Int):Bool:=(decide ((dig x.natAbs).length≤80) && M.ins (dig z.natAbs).length 1 80) && !decide (z<0)
theorem lk {x z:Int} (h:¬ (dig x.natAbs).length≤80):cR x z=false:=by unfold cR;rw [decide_eq_false h];rfl
theorem ll {x z:Int} (h:¬ (dig z.natAbs).length≤80):cR x z=false:=by
 unfold cR
 rw [show M.ins ((dig z.natAbs).length:Int) 1 80=false by unfold M.ins;simp;omega]
 simp
end Wh
theorem jd (x z:Int) (vx vz:Value) (w:World) (bx bz:Nat) (hox:ae w bx vx x) (hoz:ae w bz vz z) (hl1:(Wh.dig x.natAbs).length≤100000) (hl2:(Wh.dig z.natAbs).length≤100000) :
  Calls Tryz.prog 153 #[.agg #[.bool (decide (x<0)),vx,.bool (decide (z<0)),vz]] w fun e w'=>e=.returned (.bool (Wh.cR x z))∧Below w.heap.size w w':=by
 obtain ⟨ax,cx,rfl,-,-⟩:=aF.view hox
 obtain ⟨az,cz,rfl,-,-⟩:=aF.view hoz
 have P1:=fun W (h:aF W bx (.slice ax (Wh.dig x.natAbs).length cx) (Wh.dig x.natAbs))=>je x (.slice ax (Wh.dig x.natAbs).length cx) W bx h hl1
 have P2:=fun W (h:aF W bz (.slice az (Wh.dig z.natAbs).length cz) (Wh.dig z.natAbs))=>je z (.slice az (Wh.dig z.natAbs).length cz) W bz h hl2
 have hOX:Hid (∀ W,Below w.heap.size w W→aF W bx (.slice ax (Wh.dig x.natAbs).length cx) (Wh.dig x.natAbs)):=uh fun W h=>aF.below hox h
 have hOZ:Hid (∀ W,Below w.heap.size w W→aF W bz (.slice az (Wh.dig z.natAbs).length cz) (Wh.dig z.natAbs)):=uh fun W h=>aF.below hoz h
 have hf1:=uh fun h=>Wh.lk (x:=x) (z:=z) h
 have hf2:=uh fun h=>Wh.ll (x:=x) (z:=z) h
 have hrt:Hid (Wh.cR x z=((decide ((Wh.dig x.natAbs).length≤80) && M.ins (Wh.dig z.natAbs).length 1 80) && !decide (z<0))):=uh rfl
 clear hox hoz
 generalize Wh.cR x z=rt at *
 generalize decide (x<0)=s1 at *
 generalize decide (z<0)=s2 at *
 generalize Wh.dig x.natAbs=xs at *
 generalize Wh.dig z.natAbs=zs at *
 generalize xs.length=lx at *
 generalize zs.length=lz at *
 have b1:=gK.new w (.bool s1) (.slice ax lx cx) (.bool s2) (.slice az lz cz) 120
 have hB:=(uk w.heap.size w).alloc (ul _) (.cells #[.bool s1,.slice ax lx cx,.bool s2,.slice az lz cz] 120)
 generalize hw3:w.alloc (.cells #[.bool s1,.slice ax lx cx,.bool s2,.slice az lz cz] 120)=w3 at *
 have e0:=b1.c0
 have e1:=b1.c1
 have e2:=b1.c2
 have e3:=b1.c3
 have bh:=uh b1
 clear b1
 by_cases h1:lx≤400
 ·rw [decide_eq_true h1] at P1
  replace P1:=uh P1
  by_cases h2:lz≤400
  ·rw [decide_eq_true h2] at P2
   replace P2:=uh P2
   by_cases h3:lx≤80
   ·have hd:decide ((lx:Int)≤80)=true:=decide_eq_true (by omega)
    have PI:=fun W=>cr (lz:Int) 1 80 W
    cases hi:M.ins (lz:Int) 1 80
    ·have hr:Hid (rt=false):=uh (by rw [hrt.out,hi,Bool.and_false];rfl)
     rw [hi] at PI
     replace PI:=uh PI
     go_enter Tryz.func153,Tryz.ntmps153
     go_wp2_with (first | (go_at_call 158;(with_reducible refine (P1.out _ (hOX.out _ hB)).mono ?_);rintro e w4 ⟨rfl,hb4⟩;(have r4:=bh.out.keep hb4);(have g0:=r4.c0);(have g1:=r4.c1);(have g2:=r4.c2);(have g3:=r4.c3);(have B4:=hB.trans (hb4.mono hB.size))) | (go_at_call 158;(with_reducible refine (P2.out _ (hOZ.out _ B4)).mono ?_);rintro e w5 ⟨rfl,hb5⟩;(have r5:=r4.keep hb5);(have k0:=r5.c0);(have k1:=r5.c1);(have k2:=r5.c2);(have k3:=r5.c3);(have B5:=B4.trans (hb5.mono B4.size))) | (go_at_call 36;(with_reducible refine (PI.out _).mono ?_);rintro e w6 ⟨rfl,rfl⟩))
     go_ret
     exact ⟨by rw [hr.out] <;> rfl,B5⟩
    have hr:Hid (rt=!s2):=uh (by rw [hrt.out,hi,decide_eq_true h3];rfl)
    rw [hi] at PI
    replace PI:=uh PI
    go_enter Tryz.func153,Tryz.ntmps153
    go_wp2_with (first | (go_at_call 158;(with_reducible refine (P1.out _ (hOX.out _ hB)).mono ?_);rintro e w4 ⟨rfl,hb4⟩;(have r4:=bh.out.keep hb4);(have g0:=r4.c0);(have g1:=r4.c1);(have g2:=r4.c2);(have g3:=r4.c3);(have B4:=hB.trans (hb4.mono hB.size))) | (go_at_call 158;(with_reducible refine (P2.out _ (hOZ.out _ B4)).mono ?_);rintro e w5 ⟨rfl,hb5⟩;(have r5:=r4.keep hb5);(have k0:=r5.c0);(have k1:=r5.c1);(have k2:=r5.c2);(have k3:=r5.c3);(have B5:=B4.trans (hb5.mono B4.size))) | (go_at_call 36;(with_reducible refine (PI.out _).mono ?_);rintro e w6 ⟨rfl,rfl⟩))
    go_ret
    exact ⟨by rw [hr.out] <;> rfl,B5⟩
   have hd:decide ((lx:Int)≤80)=false:=decide_eq_false (by omega)
   have hr:=uh (hf1.out h3)
   go_enter Tryz.func153,Tryz.ntmps153
   go_wp2_with (first | (go_at_call 158;(with_reducible refine (P1.out _ (hOX.out _ hB)).mono ?_);rintro e w4 ⟨rfl,hb4⟩;(have r4:=bh.out.keep hb4);(have g0:=r4.c0);(have g1:=r4.c1);(have g2:=r4.c2);(have g3:=r4.c3);(have B4:=hB.trans (hb4.mono hB.size))) | (go_at_call 158;(with_reducible refine (P2.out _ (hOZ.out _ B4)).mono ?_);rintro e w5 ⟨rfl,hb5⟩;(have r5:=r4.keep hb5);(have k0:=r5.c0);(have k1:=r5.c1);(have k2:=r5.c2);(have k3:=r5.c3);(have B5:=B4.trans (hb5.mono B4.size))))
   go_ret
   exact ⟨by rw [hr.out] <;> rfl,B5⟩
  rw [decide_eq_false h2] at P2
  replace P2:=uh P2
  have hr:=uh (hf2.out (by omega))
  go_enter Tryz.func153,Tryz.ntmps153
  go_wp2_with (first | (go_at_call 158;(with_reducible refine (P1.out _ (hOX.out _ hB)).mono ?_);rintro e w4 ⟨rfl,hb4⟩;(have r4:=bh.out.keep hb4);(have g0:=r4.c0);(have g1:=r4.c1);(have g2:=r4.c2);(have g3:=r4.c3);(have B4:=hB.trans (hb4.mono hB.size))) | (go_at_call 158;(with_reducible refine (P2.out _ (hOZ.out _ B4)).mono ?_);rintro e w5 ⟨rfl,hb5⟩;(have r5:=r4.keep hb5);(have k0:=r5.c0);(have k1:=r5.c1);(have k2:=r5.c2);(have k3:=r5.c3);(have B5:=B4.trans (hb5.mono B4.size))))
  go_ret
  exact ⟨by rw [hr.out] <;> rfl,B5⟩
 rw [decide_eq_false h1] at P1
 replace P1:=uh P1
 have hr:=uh (hf1.out (by omega))
 go_enter Tryz.func153,Tryz.ntmps153
 go_wp2_with (first | (go_at_call 158;(with_reducible refine (P1.out _ (hOX.out _ hB)).mono ?_);rintro e w4 ⟨rfl,hb4⟩;(have r4:=bh.out.keep hb4);(have g0:=r4.c0);(have g1:=r4.c1);(have g2:=r4.c2);(have g3:=r4.c3);(have B4:=hB.trans (hb4.mono hB.size))))
 go_ret
 exact ⟨by rw [hr.out] <;> rfl,B4⟩
theorem mO (x z:Int) (vx vz:Value) (w:World) (bx bz:Nat) (hox:ae w bx vx x) (hoz:ae w bz vz z) (hl1:(Wh.dig x.natAbs).length≤100000) (hl2:(Wh.dig z.natAbs).length≤100000) :
  Calls Tryz.prog 132 #[.agg #[.bool (decide (x<0)),vx,.bool (decide (z<0)),vz]] w fun e w'=>e=.returned (.bool (Wh.cR x z))∧Below w.heap.size w w':=by
 obtain ⟨ax,cx,rfl,-,-⟩:=aF.view hox
 obtain ⟨az,cz,rfl,-,-⟩:=aF.view hoz
 have P1:=fun W (h:aF W bx (.slice ax (Wh.dig x.natAbs).length cx) (Wh.dig x.natAbs))=>km x (.slice ax (Wh.dig x.natAbs).length cx) W bx h hl1
 have P2:=fun W (h:aF W bz (.slice az (Wh.dig z.natAbs).length cz) (Wh.dig z.natAbs))=>km z (.slice az (Wh.dig z.natAbs).length cz) W bz h hl2
 have hOX:Hid (∀ W,Below w.heap.size w W→aF W bx (.slice ax (Wh.dig x.natAbs).length cx) (Wh.dig x.natAbs)):=uh fun W h=>aF.below hox h
 have hOZ:Hid (∀ W,Below w.heap.size w W→aF W bz (.slice az (Wh.dig z.natAbs).length cz) (Wh.dig z.natAbs)):=uh fun W h=>aF.below hoz h
 have hf1:=uh fun h=>Wh.lk (x:=x) (z:=z) h
 have hf2:=uh fun h=>Wh.ll (x:=x) (z:=z) h
 have hrt:Hid (Wh.cR x z=((decide ((Wh.dig x.natAbs).length≤80) && M.ins (Wh.dig z.natAbs).length 1 80) && !decide (z<0))):=uh rfl
 clear hox hoz
 generalize Wh.cR x z=rt at *
 generalize decide (x<0)=s1 at *
 generalize decide (z<0)=s2 at *
 generalize Wh.dig x.natAbs=xs at *
 generalize Wh.dig z.natAbs=zs at *
 generalize xs.length=lx at *
 generalize zs.length=lz at *
 have b1:=gK.new w (.bool s1) (.slice ax lx cx) (.bool s2) (.slice az lz cz) 120
 have hB:=(uk w.heap.size w).alloc (ul _) (.cells #[.bool s1,.slice ax lx cx,.bool s2,.slice az lz cz] 120)
 generalize hw3:w.alloc (.cells #[.bool s1,.slice ax lx cx,.bool s2,.slice az lz cz] 120)=w3 at *
 have e0:=b1.c0
 have e1:=b1.c1
 have e2:=b1.c2
 have e3:=b1.c3
 have bh:=uh b1
 clear b1
 by_cases h1:lx≤400
 ·rw [decide_eq_true h1] at P1
  replace P1:=uh P1
  by_cases h2:lz≤400
  ·rw [decide_eq_true h2] at P2
   replace P2:=uh P2
   by_cases h3:lx≤80
   ·have hd:decide ((lx:Int)≤80)=true:=decide_eq_true (by omega)
    have PI:=fun W=>dQ (lz:Int) 1 80 W
    cases hi:M.ins (lz:Int) 1 80
    ·have hr:Hid (rt=false):=uh (by rw [hrt.out,hi,Bool.and_false];rfl)
     rw [hi] at PI
     replace PI:=uh PI
     go_enter Tryz.func132,Tryz.ntmps132
     go_wp2_with (first | (go_at_call 146;(with_reducible refine (P1.out _ (hOX.out _ hB)).mono ?_);rintro e w4 ⟨rfl,hb4⟩;(have r4:=bh.out.keep hb4);(have g0:=r4.c0);(have g1:=r4.c1);(have g2:=r4.c2);(have g3:=r4.c3);(have B4:=hB.trans (hb4.mono hB.size))) | (go_at_call 146;(with_reducible refine (P2.out _ (hOZ.out _ B4)).mono ?_);rintro e w5 ⟨rfl,hb5⟩;(have r5:=r4.keep hb5);(have k0:=r5.c0);(have k1:=r5.c1);(have k2:=r5.c2);(have k3:=r5.c3);(have B5:=B4.trans (hb5.mono B4.size))) | (go_at_call 19;(with_reducible refine (PI.out _).mono ?_);rintro e w6 ⟨rfl,rfl⟩))
     go_ret
     exact ⟨by rw [hr.out] <;> rfl,B5⟩
    have hr:Hid (rt=!s2):=uh (by rw [hrt.out,hi,decide_eq_true h3];rfl)
    rw [hi] at PI
    replace PI:=uh PI
    go_enter Tryz.func132,Tryz.ntmps132
    go_wp2_with (first | (go_at_call 146;(with_reducible refine (P1.out _ (hOX.out _ hB)).mono ?_);rintro e w4 ⟨rfl,hb4⟩;(have r4:=bh.out.keep hb4);(have g0:=r4.c0);(have g1:=r4.c1);(have g2:=r4.c2);(have g3:=r4.c3);(have B4:=hB.trans (hb4.mono hB.size))) | (go_at_call 146;(with_reducible refine (P2.out _ (hOZ.out _ B4)).mono ?_);rintro e w5 ⟨rfl,hb5⟩;(have r5:=r4.keep hb5);(have k0:=r5.c0);(have k1:=r5.c1);(have k2:=r5.c2);(have k3:=r5.c3);(have B5:=B4.trans (hb5.mono B4.size))) | (go_at_call 19;(with_reducible refine (PI.out _).mono ?_);rintro e w6 ⟨rfl,rfl⟩))
    go_ret
    exact ⟨by rw [hr.out] <;> rfl,B5⟩
   have hd:decide ((lx:Int)≤80)=false:=decide_eq_false (by omega)
   have hr:=uh (hf1.out h3)
   go_enter Tryz.func132,Tryz.ntmps132
   go_wp2_with (first | (go_at_call 146;(with_reducible refine (P1.out _ (hOX.out _ hB)).mono ?_);rintro e w4 ⟨rfl,hb4⟩;(have r4:=bh.out.keep hb4);(have g0:=r4.c0);(have g1:=r4.c1);(have g2:=r4.c2);(have g3:=r4.c3);(have B4:=hB.trans (hb4.mono hB.size))) | (go_at_call 146;(with_reducible refine (P2.out _ (hOZ.out _ B4)).mono ?_);rintro e w5 ⟨rfl,hb5⟩;(have r5:=r4.keep hb5);(have k0:=r5.c0);(have k1:=r5.c1);(have k2:=r5.c2);(have k3:=r5.c3);(have B5:=B4.trans (hb5.mono B4.size))))
   go_ret
   exact ⟨by rw [hr.out] <;> rfl,B5⟩
  rw [decide_eq_false h2] at P2
  replace P2:=uh P2
  have hr:=uh (hf2.out (by omega))
  go_enter Tryz.func132,Tryz.ntmps132
  go_wp2_with (first | (go_at_call 146;(with_reducible refine (P1.out _ (hOX.out _ hB)).mono ?_);rintro e w4 ⟨rfl,hb4⟩;(have r4:=bh.out.keep hb4);(have g0:=r4.c0);(have g1:=r4.c1);(have g2:=r4.c2);(have g3:=r4.c3);(have B4:=hB.trans (hb4.mono hB.size))) | (go_at_call 146;(with_reducible refine (P2.out _ (hOZ.out _ B4)).mono ?_);rintro e w5 ⟨rfl,hb5⟩;(have r5:=r4.keep hb5);(have k0:=r5.c0);(have k1:=r5.c1);(have k2:=r5.c2);(have k3:=r5.c3);(have B5:=B4.trans (hb5.mono B4.size))))
  go_ret
  exact ⟨by rw [hr.out] <;> rfl,B5⟩
 rw [decide_eq_false h1] at P1
 replace P1:=uh P1
 have hr:=uh (hf1.out (by omega))
 go_enter Tryz.func132,Tryz.ntmps132
 go_wp2_with (first | (go_at_call 146;(with_reducible refine (P1.out _ (hOX.out _ hB)).mono ?_);rintro e w4 ⟨rfl,hb4⟩;(have r4:=bh.out.keep hb4);(have g0:=r4.c0);(have g1:=r4.c1);(have g2:=r4.c2);(have g3:=r4.c3);(have B4:=hB.trans (hb4.mono hB.size))))
 go_ret
 exact ⟨by rw [hr.out] <;> rfl,B4⟩
end
end Go.Proofs.YtgfkcoablfjbcaaGreatDoor
