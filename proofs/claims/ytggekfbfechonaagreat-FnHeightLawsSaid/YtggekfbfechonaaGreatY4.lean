/-
  Joined texts: contracts and plain lemmas.
-/
import Derived.Test.YtggekfbfechonaaGreatY1
import Derived.Test.YtggekfbfechonaaGreatY3
import Derived.Test.YtggekfbfechonaaGreatShB
import Derived.Lib.BitFns
set_option linter.unusedSimpArgs false
set_option linter.unusedVariables false
set_option maxRecDepth 100000
set_option maxHeartbeats 8000000
namespace Go.Proofs.YtggekfbfechonaaGreat
section
open Go.RowKit
theorem dk (a n:Int) (va:Value) (w:World) (ba:Nat) (hoa:ak w ba va a) (hl1:(Wh.a_ a.natAbs).length≤10000) (hn1:-1000000000000000000≤n) (hn2:n≤1000000000000000000) :
  Calls Tryz.prog 186 #[.agg #[.bool (decide (a<0)),va],.int .i64 n] w fun e w'=>∃ sl,e=.returned (.agg #[.bool (decide (a*n<0)),sl])∧ak w' w.heap.size sl (a*n)∧Below w.heap.size w w':=by
 obtain ⟨aa,o_,rfl,-,-⟩:=aF.view hoa;have hnl:(Wh.a_ n.natAbs).length≤10000:=Nat.le_trans (Wh.dJ (k:=5) (by omega)) (by decide)
 have PM:=fun W=>jY n W hn1 hn2
 have PA:=fun Fl W bb' (h1:aF W ba (.slice aa (Wh.a_ a.natAbs).length o_) (Wh.a_ a.natAbs)) (h2:ak W bb' Fl n)=>dg a n (.slice aa (Wh.a_ a.natAbs).length o_) Fl W ba bb' h1 h2 hl1 hnl
 have AG:Hid (∀ W,Below w.heap.size w W→aF W ba (.slice aa (Wh.a_ a.natAbs).length o_) (Wh.a_ a.natAbs)):=wH fun W h=>aF.below hoa h
 clear hoa hnl hn1 hn2;generalize Wh.a_ a.natAbs=xs,a*n=z,decide (a<0)=s1 at *;generalize decide (n<0)=s3,decide (z<0)=s,xs.length=l1 at *;have PM:=wH PM;have PA:=wH PA;have n1:=(ar.new w (.bool s1) (.slice aa l1 o_) 125).alloc (.cells #[.bool false,.slice none 0 0] 125);have n3:=ar.new2 w (.cells #[.bool s1,.slice aa l1 o_] 125) (.bool false) (.slice none 0 0) 125;have Bn:=((wK w.heap.size w).alloc (wL _) (.cells #[.bool s1,.slice aa l1 o_] 125)).alloc (by rw [wI];omega) (.cells #[.bool false,.slice none 0 0] 125);generalize hw3:(w.alloc (.cells #[.bool s1,.slice aa l1 o_] 125)).alloc (.cells #[.bool false,.slice none 0 0] 125)=w3 at *;have e1:=n1.c0;have e2:=n1.c1;go_enter Tryz.func186,Tryz.ntmps186
 go_wp2
 go_region_held3 (fun W=>W.cell? ⟨w.heap.size,0,none⟩=some (.bool s1)∧W.cell? ⟨w.heap.size,1,none⟩=some (.slice aa l1 o_)) (first | (refine ⟨?_,?_⟩ <;> (first | (with_reducible exact aE (by assumption) (by assumption)) | (with_reducible exact Gr.bJ (by assumption)) | (with_reducible refine Gr.bV (by assumption) ?_;(intro wt;(try simp only [wI,aO,World.heap_drewN,aI] at wt);omega)) | (with_reducible refine Gr.dD (by assumption) ?_ ?_ <;> (intro wt;(try simp only [wI,aO,World.heap_drewN,aI] at wt);omega)) | exact aE (by assumption) (by assumption) | (with_reducible exact bI (by assumption) (by assumption) (by assumption)))) | (go_split_ands;(refine ⟨?_,?_⟩ <;> (first | (with_reducible exact aE (by assumption) (by assumption)) | (with_reducible exact Gr.bJ (by assumption)) | (with_reducible refine Gr.bV (by assumption) ?_;(intro wt;(try simp only [wI,aO,World.heap_drewN,aI] at wt);omega)) | (with_reducible refine Gr.dD (by assumption) ?_ ?_ <;> (intro wt;(try simp only [wI,aO,World.heap_drewN,aI] at wt);omega)) | exact aE (by assumption) (by assumption) | (with_reducible exact bI (by assumption) (by assumption) (by assumption))))) | go_keep) ((first
  | (go_at_call 135;(with_reducible refine (PM.out _).mono ?_);rintro e w4 ⟨v4,rfl,xF,hb4⟩;have B4:=Bn.drew.trans (hb4.mono Bn.size);have r4:=n3.drew.keep hb4;have yW:=aE hb4 (af e1);have zR:=aE hb4 (af e2);(have z4:w3.heap.size≤w4.heap.size:=hb4.size))
  | (go_at_call 185;(with_reducible refine (PA.out _ _ _ (AG.out _ B4) xF).mono ?_);rintro e w5 ⟨vc,rfl,hoc,hbc⟩;obtain ⟨ac,wX,rfl,hmc,xV⟩:=aF.view hoc;have B5:=d_ B4 hbc;have r5:=r4.keep hbc;have c0:=r5.c0;have c1:=r5.c1;have g0:=r5.f0;have g1:=r5.f1;have Bg:=aE hbc yW;have Cf:=aE hbc zR;clear xV hmc)
  | fail "ARMS"))
 all_goals
  have hr:=cF (w:=w) (w.heap.size+1) _ (.bool s) (by omega) (Nat.lt_of_lt_of_le n3.size z4) hoc B5;generalize (Wh.a_ z.natAbs).length=yE at *;go_wp2;exact bodyPost_ret (v:=.agg #[.bool s,.slice ac yE wX]) (by simp [results,Tryz.results186,go_sem, *]) rfl (⟨_,rfl,hr.1,hr.2⟩)
theorem dw (a n:Int) (va:Value) (w:World) (ba:Nat) (hoa:ak w ba va a) (hl:(Wh.a_ a.natAbs).length≤9000) (hn1:1≤n) (hn2:n≤1000000000000) :
  Calls Tryz.prog 169 #[.agg #[.bool (decide (a<0)),va],.int .i64 n] w fun e w'=>∃ sl,e=.returned (.tuple #[.agg #[.bool (decide (a / n<0)),sl],.int .i64 (a % n)])∧ak w' w.heap.size sl (a / n)∧Below w.heap.size w w':=by
 obtain ⟨aa,o_,rfl,hma,hva⟩:=aF.seen hoa;have hva:=wH hva;have hla:=wH (Wh.bD a.natAbs);have hvl:=wH (Wh.bR a.natAbs)
 have hq0:=fun s=>Wh.oW (a:=a) (n:=n) s (by omega)
 have PT:=fun s W v base ho=>fv (Wh.yG s ((a.natAbs:Int) / n)) ((a.natAbs:Int) / n) (Wh.a_ a.natAbs).length s v W base ho (by omega) rfl
 have d0:=fun h=>Wh.rB (a:=a) (n:=n) h
 have d1:=fun h h'=>Wh.q9 (a:=a) (n:=n) (by omega) h h'
 have d2:=fun h h'=>Wh.rA (a:=a) (n:=n) (by omega) h h'
 have d0:=wH d0;have d1:=wH d1;have d2:=wH d2;clear hma hoa
 obtain ⟨s1,hs1⟩:∃ s,decide (a<0)=s:=⟨_,rfl⟩
 rw [hs1];have hs1:=wH hs1;generalize a % n=zr,a / n=z at *;generalize hab:(a.natAbs:Int)=A at *;have yN:Hid (Wh.val (Wh.a_ a.natAbs)=A):=hvl;clear hvl hab;generalize Wh.a_ a.natAbs=xs at *
 obtain ⟨s,hsd⟩:∃ s,Hid (decide (z<0)=s):=⟨_,wH rfl⟩
 rw [hsd.out];have b1:=(ar.new w (.bool s1) (.slice aa xs.length o_) 125).alloc (.cells #[.bool false,.slice none 0 0] 125);have b2:=ar.new2 w (.cells #[.bool s1,.slice aa xs.length o_] 125) (.bool false) (.slice none 0 0) 125;have hB:=((wK w.heap.size w).alloc (wL _) (.cells #[.bool s1,.slice aa xs.length o_] 125)).alloc (by rw [wI];omega) (.cells #[.bool false,.slice none 0 0] 125);generalize hw3:(w.alloc (.cells #[.bool s1,.slice aa xs.length o_] 125)).alloc (.cells #[.bool false,.slice none 0 0] 125)=w3 at *;obtain ⟨w4,hrun,hown1,hg1⟩:=kQ w3 xs.length (by omega);have hb4:Below w3.heap.size w3 w4:=cP hg1 (wL _) (fun k hk=>by cases hk);have hB3:=wH hB;have e2:=b1.c1;have Bv:=wH b1;have Bw:=wH b2;have Ay:=(b1.keep hb4).c1;clear hg1 b2 hB;go_enter Tryz.func169,Tryz.ntmps169
 go_wp2;clear e2 b1 Ay
 go_loopw [7,8] (fun vr vi wr=>∃ (k:Nat) (q:List Int) (r:Int),k≤xs.length∧vi=.int .i64 ((k:Int) - 1)∧vr=.int .i64 r∧aF wr w3.heap.size (.slice (some ⟨w3.heap.size,0,none⟩) xs.length xs.length) q∧Wh.jP xs q n k r∧Below w3.heap.size w3 wr) (fun _ vi _=>(intOf vi+1).toNat)
 case atStart=>exact ⟨xs.length,List.replicate xs.length 0,0,wL _,rfl,rfl,hown1,Wh.jP.start (by omega) List.length_replicate,hb4⟩
 case round=>
 clear hown1 hb4;obtain ⟨k,q,r,hk,rfl,rfl,hown,hdi,hbr⟩:=hrel;have c1:=Bv.out.dP hbr Bv.out.size;have c2:=Bw.out.dP hbr Bw.out.size;have hwr:Below w.heap.size w wr:=hB3.out.trans (hbr.mono hB3.out.size)
 cases k with
 | zero=>
  have hf:=hdi.fin;rw [yN.out] at hf;obtain ⟨hq1,rfl,hq3⟩:=hf;have hov:Hid (jS wr w3.heap.size (.slice (some ⟨w3.heap.size,0,none⟩) xs.length xs.length) (A / n) xs.length):=wH ⟨q,hown,hq3,hq1,by rw [hdi.len];exact wL _⟩;have hd0:=c1.c0;clear hdi hown hq1 hq3;cases s1
  ·have hna:¬ a<0:=by have:=hs1.out;simpa using this
   obtain ⟨hz1,hz2⟩:=d0.out (by omega);have PT:=PT false;rw [hz1] at PT;rw [hsd.out] at PT;have PT:=wH PT;rw [hz2]
   go_wp2_with (go_at_call 168;(with_reducible refine (PT.out _ _ _ hov.out).mono ?_);rintro e w5 ⟨vc,rfl,hoc,hbc⟩;obtain ⟨ac,wX,rfl,hmc,xV⟩:=aF.view hoc;have r5:=c2.keep hbc;have b5:=c1.keep hbc;have p0:=r5.c0;have p1:=r5.c1;have g0:=r5.f0;have g1:=r5.f1;have z5:=r5.size;have y5:=b5.size;have x0:=b5.c0;clear xV hmc)
   have hr0:=cF (w:=w) (w2:=w5) (w.heap.size+1) _ (.bool s) (by omega) c2.size hoc (d_ hwr hbc);have hr1:=aF.alloc hr0.1 (.cells #[.bool s,.slice ac (Wh.a_ z.natAbs).length wX] 125);have hr2:=hr0.2.alloc hr0.2.size (.cells #[.bool s,.slice ac (Wh.a_ z.natAbs).length wX] 125);generalize (Wh.a_ z.natAbs).length=yE at *;exact bodyPost_ret (v:=.tuple #[.agg #[.bool s,.slice ac yE wX],.int .i64 zr]) (by simp [results,Tryz.results169,go_sem, *]) rfl (⟨_,rfl,hr1,hr2⟩)
  have hna:a<0:=by have:=hs1.out;simpa using this
  by_cases hrz:A % n=0
  ·skip
   obtain ⟨hz1,hz2⟩:=d1.out hna hrz;have PT:=PT true;rw [hz1] at PT;rw [hsd.out] at PT;have PT:=wH PT;rw [hz2] at hrz ⊢
   go_wp2_with (go_at_call 168;(with_reducible refine (PT.out _ _ _ hov.out).mono ?_);rintro e w5 ⟨vc,rfl,hoc,hbc⟩;obtain ⟨ac,wX,rfl,hmc,xV⟩:=aF.view hoc;have r5:=c2.keep hbc;have b5:=c1.keep hbc;have p0:=r5.c0;have p1:=r5.c1;have g0:=r5.f0;have g1:=r5.f1;have z5:=r5.size;have y5:=b5.size;have x0:=b5.c0;clear xV hmc)
   have hr0:=cF (w:=w) (w2:=w5) (w.heap.size+1) _ (.bool s) (by omega) c2.size hoc (d_ hwr hbc);have hr1:=aF.alloc hr0.1 (.cells #[.bool s,.slice ac (Wh.a_ z.natAbs).length wX] 125);have hr2:=hr0.2.alloc hr0.2.size (.cells #[.bool s,.slice ac (Wh.a_ z.natAbs).length wX] 125);generalize (Wh.a_ z.natAbs).length=yE at *;exact bodyPost_ret (v:=.tuple #[.agg #[.bool s,.slice ac yE wX],.int .i64 zr]) (by simp [results,Tryz.results169,go_sem, *]) rfl (⟨_,rfl,hr1,hr2⟩)
  obtain ⟨hz1,hz2⟩:=d2.out hna hrz;have PT:=PT true;have hq1:=hq0 true
  have M7:0<A % n:=by have:=Int.emod_nonneg A (show n≠0 by omega);omega
  have hrn:A % n<n:=Int.emod_lt_of_pos _ (by omega);generalize A % n=rr,Wh.yG true (A / n)=y0 at *
  have PW:=fun W=>jY 1 W (by omega) (by omega)
  have PA:=fun va vb W ba bb (h1:aF W ba va (Wh.a_ y0.natAbs)) (h2:aF W bb vb (Wh.a_ (1:Int).natAbs))=>ke y0 1 va vb W ba bb h1 h2 (by omega) (by have:=Wh.io;rw [Int.natAbs_neg] at this;omega)
  rw [decide_eq_false (show ¬ (1:Int)<0 by decide)] at PW PA;rw [show y0 - 1=z by omega,hsd.out] at PA;have M8:=M7
  obtain ⟨s0,hs0⟩:∃ s0,decide (y0<0)=s0:=⟨_,rfl⟩
  rw [hs0] at PT PA;have PT:=wH PT;have PW:=wH PW;have PA:=wH PA;replace hz2:=wH hz2;clear hz1 hs0 hq0 hq1 d0 d1 d2 hrz
  go_wp2_with (go_at_call 168;(with_reducible refine (PT.out _ _ _ hov.out).mono ?_);rintro e w5 ⟨vc,rfl,hoc,hbc⟩;obtain ⟨ac,wX,rfl,hmc,xV⟩:=aF.view hoc;have r5:=c2.keep hbc;have b5:=c1.keep hbc;have p0:=r5.c0;have p1:=r5.c1;have g0:=r5.f0;have g1:=r5.f1;have z5:=r5.size;have y5:=b5.size;have x0:=b5.c0;clear xV hmc)
  have bt:=ar.new w5 (.bool s0) (.slice ac (Wh.a_ y0.natAbs).length wX) 125;have r6:=r5.alloc (.cells #[.bool s0,.slice ac (Wh.a_ y0.natAbs).length wX] 125);have GX:=aF.alloc hoc (.cells #[.bool s0,.slice ac (Wh.a_ y0.natAbs).length wX] 125);have B6:=(d_ hwr hbc).alloc (by have:=(d_ hwr hbc).size;omega) (.cells #[.bool s0,.slice ac (Wh.a_ y0.natAbs).length wX] 125);have u0:=bt.c0;have u1:=bt.c1;have zz:w5.heap.size<(w5.alloc (.cells #[.bool s0,.slice ac (Wh.a_ y0.natAbs).length wX] 125)).heap.size:=bt.size;generalize (Wh.a_ y0.natAbs).length=l0,w5.alloc (.cells #[.bool s0,.slice ac (Wh.a_ y0.natAbs).length wX] 125)=w6 at *;clear p0 p1 g0 g1 x0
  go_region_held3 (fun W=>W.cell? ⟨w5.heap.size,0,none⟩=some (.bool s0)∧W.cell? ⟨w5.heap.size,1,none⟩=some (.slice ac l0 wX)) (first | (refine ⟨?_,?_⟩ <;> (first | (with_reducible exact aE (by assumption) (by assumption)) | (with_reducible exact Gr.bJ (by assumption)) | (with_reducible refine Gr.bV (by assumption) ?_;(intro wt;(try simp only [wI,aO,World.heap_drewN,aI] at wt);omega)) | (with_reducible refine Gr.dD (by assumption) ?_ ?_ <;> (intro wt;(try simp only [wI,aO,World.heap_drewN,aI] at wt);omega)) | exact aE (by assumption) (by assumption) | (with_reducible exact bI (by assumption) (by assumption) (by assumption)))) | (go_split_ands;(refine ⟨?_,?_⟩ <;> (first | (with_reducible exact aE (by assumption) (by assumption)) | (with_reducible exact Gr.bJ (by assumption)) | (with_reducible refine Gr.bV (by assumption) ?_;(intro wt;(try simp only [wI,aO,World.heap_drewN,aI] at wt);omega)) | (with_reducible refine Gr.dD (by assumption) ?_ ?_ <;> (intro wt;(try simp only [wI,aO,World.heap_drewN,aI] at wt);omega)) | exact aE (by assumption) (by assumption) | (with_reducible exact bI (by assumption) (by assumption) (by assumption))))) | go_keep) ((first
   | (go_at_call 135;(with_reducible refine (PW.out _).mono ?_);rintro e w7 ⟨v7,rfl,AM,wg⟩;(have GW:aF _ _ _ (Wh.a_ (1:Int).natAbs):=AM);have Fm:=aE wg (af u0);have yW:=aE wg (af u1);have r7:=r6.drew.keep wg;have B7:=B6.drew.trans (wg.mono B6.size);have GY:=aF.below (aF.below GX (wK _ _).drew) wg;(have z7:w6.heap.size≤w7.heap.size:=wg.size))
   | (go_at_call 193;(with_reducible refine (PA.out _ _ _ _ _ GY GW).mono ?_);rintro e w8 ⟨v8,rfl,yM,xB⟩;obtain ⟨a8,GA,rfl,IJ,NY⟩:=aF.view yM;have y0_:=aE xB Fm;have Bg:=aE xB yW;have r8:=r7.keep xB;have p0:=r8.c0;have p1:=r8.c1;have g0:=r8.f0;have g1:=r8.f1;have B8:=d_ B7 xB;clear NY IJ)
   | fail "ARMS"))
  all_goals
   have hr:=cF (w:=w) (w.heap.size+1) _ (.bool s) (by omega) r7.size yM B8;generalize (Wh.a_ z.natAbs).length=yE at *;go_wp2
   have hwz:IntKind.i64.wrap (n - rr)=n - rr:=by
    rw [IntKind.wrap_i64];omega
   exact bodyPost_ret (v:=.tuple #[.agg #[.bool s,.slice a8 yE GA],.int .i64 (n - rr)]) (by simp [results,Tryz.results169,go_sem, *]) rfl (⟨_,by rw [hz2.out],hr.1,hr.2⟩)
 | succ j=>
 obtain ⟨ga,x,ea,hga,hxa,hca⟩:=hva.out j (by omega);subst ea;have hca:=aE hwr hca;have hr0:=hdi.r0;have hlx:=hla.out x (List.mem_of_getElem? hxa.out);unfold Wh.lim at hlx;have hS:=hdi.step hla.out hxa.out hn2;have hy:=hS.1;have t1:Int.tdiv (r*10000+x) n=(r*10000+x) / n:=Int.tdiv_eq_ediv_of_nonneg hy.1;have t2:Int.tmod (r*10000+x) n=(r*10000+x) % n:=Int.tmod_eq_emod_of_nonneg hy.1;have hpl:=hdi.len;have hqk:q[j]?=some q[j]:=List.getElem?_eq_getElem (by omega);have hc0:=aF.cellAt hpl.symm hown hqk;have hf0:wr.frozen? ⟨w3.heap.size,j,none⟩=false:=es hpl hown j;have hO:=wH (aF.set (j:=j) hpl.symm hown ((r*10000+x) / n) rfl);have hS2:=wH hS.2;have xY:=wH hbr;have f2:=c1.c1;have Jg:w3.heap.size<wr.heap.size:=World.block_lt_of_cell? wr _ hc0
 have hdb:-1000000000000≤(r*10000+x) / n∧(r*10000+x) / n≤10000000000000000:=by
  have h1:=Int.ediv_nonneg hy.1 (show 0≤n by omega);have h2:=Int.ediv_le_self n hy.1;omega
 have hmb:0≤(r*10000+x) % n∧(r*10000+x) % n<n:=⟨Int.emod_nonneg _ (by omega),Int.emod_lt_of_pos _ (by omega)⟩
 generalize (r*10000+x) % n=yr,(r*10000+x) / n=yq,q[j]=qj at *;clear hS hdi hpl hqk hown c1 c2 hxa;go_wp2
 go_roundw
 case rel=>exact ⟨j,_,_,by omega,by go_num,by go_num,hO.out.1,hS2.out,xY.out.setCell (wL _) _⟩
 case measure=>first | (simp [intOf];done) | (simp [intOf];omega)
namespace Wh
def bl (n:Nat):Nat:=if n=0 then 0 else Nat.log2 n+1
theorem so:bl 0=0:=rfl
theorem kf {n:Nat} (h:n≠0):bl n=bl (n / 2)+1:=by
 unfold bl;rw [if_neg h,Nat.log2_def]
 by_cases h2:2≤n
 ·rw [if_pos h2,if_neg (by omega)]
 rw [if_neg h2,if_pos (by omega)]
theorem jb:∀ (k n:Nat),2 ^ k≤n→bl n=bl (n / 2 ^ k)+k
 | 0,n,_=>by simp
 | k+1,n,h=>by
  have hp:0<2 ^ k:=Nat.pow_pos (by decide)
  have h1:2 ^ k≤n / 2:=by
   rw [Nat.pow_succ] at h;exact (Nat.le_div_iff_mul_le (by decide)).2 h
  rw [kf (n:=n) (by rw [Nat.pow_succ] at h;omega),jb k (n / 2) h1,Nat.div_div_eq_div_mul,Nat.pow_succ,Nat.mul_comm 2];omega
theorem qn (n:Nat) (h:n<18446744073709551616):Lib.bitLen n=bl n:=by
 induction n using Nat.strongRecOn with
 | ind n ih=>
 by_cases h0:n=0
 ·subst h0;rfl
 rw [Lib.bitLen_half n h0 h,kf h0,ih (n / 2) (by omega) (by omega)];omega
theorem nL {l:List Int} (h:bQ l) (k:Nat):val (l.drop k)≤val l:=by
 have e:=fF (l.take k) (l.drop k);rw [List.take_append_drop] at e;have h1:=cs (eW h k);have h2:=cs (iU h k);have h3:=Int.mul_le_mul_of_nonneg_right (show (1:Int)≤10000 ^ (l.take k).length by have:=pow_pos (l.take k).length;omega) h2;omega
theorem oV {n k:Nat} (h:k<(a_ n).length):10000 ^ k≤n:=by
 by_cases h':n<10000 ^ k
 ·have:=dJ h';omega
 omega
theorem iL {n k:Nat} (h:(a_ n).length≤k):(n:Int)<10000 ^ k:=by
 have h1:=eM (bD n);rw [bR] at h1;have:=iX h;omega
end Wh
theorem aF.past {w:World} {base c:Nat} {sl:Value} {xs:List Int} (h:aF w base sl xs) (hc:c<base) (u v:Value):aF ((w.setCell ⟨c,0,none⟩ u).setCell ⟨c,1,none⟩ v) base sl xs:=by
 refine World.ownsRow.kept h (cG w c u v) ?_
 cases hs:sl.ownBlock with
 | none=>exact Or.inl rfl
 | some g=>
 right
 intro e
 injection e with e
 have:=(aF.lt h g hs).1;omega
theorem ik (a:Int) (sl:Value) (w:World) (base:Nat) (ho:ak w base sl a) (hl:(Wh.a_ a.natAbs).length≤1000000) :
  Calls Tryz.prog 182 #[.agg #[.bool (decide (a<0)),sl]] w fun e w'=>∃ sl',e=.returned (.agg #[.bool false,sl'])∧aF w' w.heap.size sl' (Wh.a_ a.natAbs)∧Below w.heap.size w w':=by
 refine (nY a sl w base ho hl).mono fun e w' ⟨sl',h1,h2,h3⟩=>⟨sl',?_,?_,h3⟩
 ·rw [h1,decide_eq_false (show ¬ ((a.natAbs:Int)<0) by omega)]
 unfold ak at h2
 rwa [Int.natAbs_natCast] at h2
theorem iq (m n:Nat) (va:Value) (w:World) (ba:Nat) (hoa:aF w ba va (Wh.a_ m)) (hl:(Wh.a_ m).length≤9000) (hn1:1≤n) (hn2:n≤1000000000000) :
  Calls Tryz.prog 179 #[.agg #[.bool false,va],.int .i64 (n:Int)] w fun e w'=>∃ sl,e=.returned (.tuple #[.agg #[.bool false,sl],.int .i64 ((m % n:Nat):Int)])∧aF w' w.heap.size sl (Wh.a_ (m / n))∧Below w.heap.size w w':=by
 have h:=gL (m:Int) (n:Int) va w ba (by unfold ak;rwa [Int.natAbs_natCast]) (by rwa [Int.natAbs_natCast]) (by omega) (by omega);rw [decide_eq_false (show ¬ ((m:Int)<0) by omega)] at h
 refine h.mono fun e w' ⟨sl',h1,h2,h3⟩=>⟨sl',?_,?_,h3⟩
 ·rw [h1,decide_eq_false (show ¬ ((m:Int) / (n:Int)<0) by have:=Int.ediv_nonneg (a:=(m:Int)) (b:=(n:Int)) (by omega) (by omega);omega),←Int.natCast_emod]
 unfold ak at h2
 rwa [←Int.natCast_ediv,Int.natAbs_natCast] at h2
theorem l6 (a:Int) (va:Value) (w:World) (ba:Nat) (hoa:ak w ba va a) (hl:(Wh.a_ a.natAbs).length≤9000) (hbl:Wh.bl a.natAbs≤1000000) :
  Calls Tryz.prog 156 #[.agg #[.bool (decide (a<0)),va]] w fun e w'=>e=.returned (.int .i64 (Wh.bl a.natAbs:Nat))∧Below w.heap.size w w':=by
 obtain ⟨aa,o_,rfl,-,-⟩:=aF.view hoa
 have PA:=fun W (h:aF W ba (.slice aa (Wh.a_ a.natAbs).length o_) (Wh.a_ a.natAbs))=>ik a (.slice aa (Wh.a_ a.natAbs).length o_) W ba h (by omega)
 have PD:=fun (m:Nat) (hm:(Wh.a_ m).length≤9000) va W b (h:aF W b va (Wh.a_ m))=>iq m 67108864 va W b h hm (by omega) (by omega)
 rw [show ((67108864:Nat):Int)=67108864 from rfl] at PD;replace PD:=wH PD;generalize decide (a<0)=s1 at *;replace hoa:=wH (show aF _ _ _ _ from hoa);generalize a.natAbs=N at *;have b1:=ar.new w (.bool s1) (.slice aa (Wh.a_ N).length o_) 125;have hB:=(wK w.heap.size w).alloc (wL _) (.cells #[.bool s1,.slice aa (Wh.a_ N).length o_] 125);have ho1:=aF.alloc hoa.out (.cells #[.bool s1,.slice aa (Wh.a_ N).length o_] 125);generalize hw3:w.alloc (.cells #[.bool s1,.slice aa (Wh.a_ N).length o_] 125)=w3 at *;replace PA:=wH PA;have e1:=b1.c0;have e2:=b1.c1;have hz3:=b1.size;go_enter Tryz.func156,Tryz.ntmps156
 go_wp2_with (go_at_call 182;(with_reducible refine (PA.out _ ho1).mono ?_);rintro e w4 ⟨v4,rfl,xF,hb4⟩;obtain ⟨a4,cap4,rfl,Mt,hv4⟩:=aF.view xF;have r4:=b1.keep hb4;have c0:=r4.c0;have c1:=r4.c1;have g0:=r4.f0;have g1:=r4.f1;clear hv4 Mt)
 have rs:=r4.store (.bool false) (.slice a4 (Wh.a_ N).length cap4);have os:=aF.past (aF.base (base':=w.heap.size+1) xF (by omega)) (Nat.lt_succ_self _) (.bool false) (.slice a4 (Wh.a_ N).length cap4);have Bs:=((d_ hB hb4).setCell (p:=⟨w.heap.size,0,none⟩) (wL _) (.bool false)).setCell (p:=⟨w.heap.size,1,none⟩) (wL _) (.slice a4 (Wh.a_ N).length cap4);clear r4 c0 c1 g0 g1 e1 e2 xF hb4 b1 hB ho1
 go_loopw [3] (fun vb wr=>∃ (m c:Nat) (ax:Option Addr) (cx:Nat),vb=.int .i64 c∧c+Wh.bl m=Wh.bl N∧(Wh.a_ m).length≤(Wh.a_ N).length∧Hid (ar wr w.heap.size (.bool false) (.slice ax (Wh.a_ m).length cx))∧aF wr (w.heap.size+1) (.slice ax (Wh.a_ m).length cx) (Wh.a_ m)∧Below w.heap.size w wr) (fun vb _=>Wh.bl N - (intOf vb).toNat)
 case atStart=>exact ⟨N,0,a4,cap4,rfl,Nat.zero_add _,wL _,wH rs,os,Bs⟩
 case round=>
 clear rs os Bs;obtain ⟨m,c,ax,cx,rfl,hc,hml,xy,hown,hbr⟩:=hrel;have c0:=xy.out.c0;have c1:=xy.out.c1;have A3:=xy.out.size
 by_cases h2:2<(Wh.a_ m).length
 ·have hbig:=Wh.oV h2
  have hsh:=Wh.jb 26 m (by omega);rw [show 2 ^ 26=67108864 from rfl] at hsh;have Mv:=Wh.dh (Nat.div_le_self m 67108864);have PX:=PD.out m (by omega);have PX:=wH PX;generalize m % 67108864=rr,m / 67108864=m2 at *;have hown:=wH hown;clear hbig;generalize hlm:(Wh.a_ m).length=lm at *
  go_wp2_with (go_at_call 179;(with_reducible refine (PX.out _ _ _ hown.out).mono ?_);rintro e w5 ⟨v5,rfl,wW,hb5⟩;obtain ⟨a5,cap5,rfl,FD,hv5⟩:=aF.view wW;have r5:=xy.out.keep hb5;have d0:=r5.c0;have d1:=r5.c1;have g0:=r5.f0;have g1:=r5.f1;clear hv5 FD)
  go_roundw
  case rel=>exact ⟨m2,c+26,a5,cap5,by go_num,by omega,by omega,wH (r5.store _ _),aF.past (aF.base wW (by omega)) (Nat.lt_succ_self _) _ _,((d_ hbr hb5).setCell (wL _) _).setCell (wL _) _⟩
  case measure=>simp [intOf];omega
 have hsm:=Wh.iL (n:=m) (k:=2) (by omega)
 have IJ:(m:Int)≤99999999:=by
  have:(10000:Int) ^ 2=100000000:=by decide
  omega
 have hld:=wH (Wh.bD m);have hvd:=wH (Wh.bR m)
 have PB:=fun W=>Tryz.bits_Len (m:Int) W (by omega) (by omega)
 rw [Int.toNat_natCast,Wh.qn m (by omega)] at PB;have hc2:=wH hc
 have xx:Wh.bl m≤Wh.bl N:=by omega
 obtain ⟨ad,capd,ed,hmd,hvs⟩:=aF.seen hown
 injection ed with e1 e2 e3
 subst e1 e3;replace hvs:=wH hvs;clear hsm hml hown PD hc hmd e2
 have hb0:Hid (m=0→Wh.bl m=0):=wH fun h=>by rw [h];rfl
 generalize Wh.a_ m=ds,Wh.bl m=bm at *;replace PB:=wH PB
 have hln:ds.length≤2:=by omega
 clear h2;go_wp2
 go_loopw [4,5] (fun vn vi wq=>∃ (k:Nat),k≤ds.length∧vi=.int .i64 ((k:Int) - 1)∧vn=.int .i64 (Wh.val (ds.drop k))∧Below wr.heap.size wr wq) (fun _ vi _=>(intOf vi+1).toNat)
 case atStart=>exact ⟨ds.length,wL _,rfl,by rw [List.drop_length];rfl,wK _ _⟩
 case round=>
 obtain ⟨k,hk,rfl,rfl,hbq⟩:=hrel;have f1:=aE hbq c1;have hdn:=Wh.cs (Wh.iU hld.out k);have hdl:=Wh.nL hld.out k;rw [hvd.out] at hdl
 cases k with
 | zero=>
  have hv0:Wh.val (ds.drop 0)=m:=by rw [List.drop_zero];exact hvd.out
  rw [hv0];clear hv0 hdn hdl
  by_cases hm0:m=0
  ·have hcn:Hid (Wh.bl N=c):=wH (by have:=hc2.out;have:=hb0.out hm0;omega)
   subst hm0;go_wp2;go_ret;exact ⟨by rw [hcn.out] <;> rfl,d_ hbr hbq⟩
  have hcn:Hid (((Wh.bl N:Nat):Int)=(c:Int)+bm):=wH (by have:=hc2.out;omega)
  have hcb:c≤1000000:=by have:=hc2.out;omega
  have hm1:0<(m:Int):=by omega
  go_wp2_with (go_at_call 128;(refine (PB.out _).mono ?_);rintro e w6 ⟨rfl,rfl⟩)
  go_ret;exact ⟨by rw [hcn.out] <;> rfl,d_ hbr hbq⟩
 | succ j=>
 obtain ⟨gx,x,ex,hgx,Je,hcx⟩:=hvs.out j (by omega);subst ex;have hcx:=aE hbq hcx;have hvj:=Wh.jw Je.out;have hlx:=hld.out x (List.mem_of_getElem? Je.out);unfold Wh.lim at hlx;have Nb:=wH (show Wh.val (ds.drop j)=Wh.val (ds.drop (j+1))*10000+x by rw [hvj];omega)
 have hbv:Wh.val (ds.drop (j+1))≤100000000:=by omega
 clear hvj Je hdl;generalize Wh.val (ds.drop (j+1))=v1 at *;go_wp2
 go_roundw
 case rel=>exact ⟨j,by omega,by go_num,by rw [Nb.out],hbq⟩
 case measure=>first | (simp [intOf];done) | (simp [intOf];omega)
theorem pf (N:Nat) (v:Value) (w:World) (base:Nat) (hown:aF w base v (Wh.a_ N)) (hl:(Wh.a_ N).length≤1000000) :
  Calls Tryz.prog 168 #[.bool false,v] w fun e w'=>∃ sl,e=.returned (.agg #[.bool false,sl])∧aF w' w.heap.size sl (Wh.a_ N)∧Below w.heap.size w w':=by
 have h:=fw (N:Int) false (Wh.a_ N) v w base hown (Wh.bD N) hl (by rw [Wh.bR];rfl)
 refine h.mono fun e w' ⟨sl',h1,h2,h3⟩=>⟨sl',?_,?_,h3⟩
 ·rw [h1,decide_eq_false (show ¬ ((N:Int)<0) by omega)]
 unfold ak at h2
 rwa [Int.natAbs_natCast] at h2
theorem ph (m n:Nat) (va:Value) (w:World) (ba:Nat) (hoa:aF w ba va (Wh.a_ m)) (hl:(Wh.a_ m).length≤9000) (hn1:1≤n) (hn2:n≤1000000000000) :
  Calls Tryz.prog 169 #[.agg #[.bool false,va],.int .i64 (n:Int)] w fun e w'=>∃ sl,e=.returned (.tuple #[.agg #[.bool false,sl],.int .i64 ((m % n:Nat):Int)])∧aF w' w.heap.size sl (Wh.a_ (m / n))∧Below w.heap.size w w':=by
 have h:=dw (m:Int) (n:Int) va w ba (by unfold ak;rwa [Int.natAbs_natCast]) (by rwa [Int.natAbs_natCast]) (by omega) (by omega);rw [decide_eq_false (show ¬ ((m:Int)<0) by omega)] at h
 refine h.mono fun e w' ⟨sl',h1,h2,h3⟩=>⟨sl',?_,?_,h3⟩
 ·rw [h1,decide_eq_false (show ¬ ((m:Int) / (n:Int)<0) by have:=Int.ediv_nonneg (a:=(m:Int)) (b:=(n:Int)) (by omega) (by omega);omega),←Int.natCast_emod]
 unfold ak at h2
 rwa [←Int.natCast_ediv,Int.natAbs_natCast] at h2
theorem Wh.rX {m:Nat} (h:(a_ m).length≤1):nth (a_ m) 0=m:=by
 have hv:=bR m
 cases hd:a_ m with
 | nil=>rw [hd] at hv;rw [←hv];rfl
 | cons x l=>
 rw [hd] at h hv
 cases l with
 | nil=>rw [←hv];show x=x+10000*0;omega
 | cons y t=>simp at h
theorem jX (a:Int) (va:Value) (w:World) (ba:Nat) (hoa:ak w ba va a) (hl:(Wh.a_ a.natAbs).length≤9000) (hbl:Wh.bl a.natAbs≤1000000) :
  Calls Tryz.prog 134 #[.agg #[.bool (decide (a<0)),va]] w fun e w'=>e=.returned (.int .i64 (Wh.bl a.natAbs:Nat))∧Below w.heap.size w w':=by
 obtain ⟨aa,o_,rfl,-,-⟩:=aF.view hoa
 have PA:=fun W (h:aF W ba (.slice aa (Wh.a_ a.natAbs).length o_) (Wh.a_ a.natAbs))=>pf a.natAbs (.slice aa (Wh.a_ a.natAbs).length o_) W ba h (by omega)
 have PD:=fun (m:Nat) (hm:(Wh.a_ m).length≤9000) va W b (h:aF W b va (Wh.a_ m))=>ph m 4096 va W b h hm (by omega) (by omega)
 rw [show ((4096:Nat):Int)=4096 from rfl] at PD;replace PD:=wH PD
 have PL:=fun (m:Nat) va W b (h:aF W b va (Wh.a_ m))=>fU (Wh.a_ m) va 0 W b h
 rw [show ((0:Nat):Int)=0 from rfl] at PL;replace PL:=wH PL;generalize decide (a<0)=s1 at *;replace hoa:=wH (show aF _ _ _ _ from hoa);generalize a.natAbs=N at *;have b1:=ar.new w (.bool s1) (.slice aa (Wh.a_ N).length o_) 125;have hB:=(wK w.heap.size w).alloc (wL _) (.cells #[.bool s1,.slice aa (Wh.a_ N).length o_] 125);have ho1:=aF.alloc hoa.out (.cells #[.bool s1,.slice aa (Wh.a_ N).length o_] 125);generalize hw3:w.alloc (.cells #[.bool s1,.slice aa (Wh.a_ N).length o_] 125)=w3 at *;replace PA:=wH PA;have e2:=b1.c1;have hz3:=b1.size;go_enter Tryz.func134,Tryz.ntmps134
 go_wp2_with (go_at_call 168;(with_reducible refine (PA.out _ ho1).mono ?_);rintro e w4 ⟨v4,rfl,xF,hb4⟩;obtain ⟨a4,cap4,rfl,Mt,hv4⟩:=aF.view xF;clear hv4 Mt)
 have rs:=ar.new w4 (.bool false) (.slice a4 (Wh.a_ N).length cap4) 125;have os:=aF.alloc xF (.cells #[.bool false,.slice a4 (Wh.a_ N).length cap4] 125);have B4:=d_ hB hb4;have Bs:=B4.alloc B4.size (.cells #[.bool false,.slice a4 (Wh.a_ N).length cap4] 125);have AN:=B4.size;have IK:=wH xF;have hz34:=hb4.size;clear e2 xF hb4 b1 hB ho1 B4
 have ne:(Value.slice a4 (Wh.a_ N).length cap4).ownBlock≠some w4.heap.size:=fun e=>by
  have:=(aF.lt IK.out _ e).2;omega
 clear IK
 go_loopw [3] (fun vb wr=>∃ (m c:Nat) (ax:Option Addr) (cx:Nat),vb=.int .i64 c∧c+Wh.bl m=Wh.bl N∧(Wh.a_ m).length≤(Wh.a_ N).length∧Hid (ar wr w4.heap.size (.bool false) (.slice ax (Wh.a_ m).length cx))∧Hid ((Value.slice ax (Wh.a_ m).length cx).ownBlock≠some w4.heap.size)∧aF wr w3.heap.size (.slice ax (Wh.a_ m).length cx) (Wh.a_ m)∧Below w.heap.size w wr) (fun vb _=>Wh.bl N - (intOf vb).toNat)
 case atStart=>exact ⟨N,0,a4,cap4,rfl,Nat.zero_add _,wL _,wH rs,wH ne,os,Bs⟩
 case round=>
 clear rs os Bs ne;obtain ⟨m,c,ax,cx,rfl,hc,hml,xy,hne,hown,hbr⟩:=hrel;have c0:=xy.out.c0;have c1:=xy.out.c1;have A3:=xy.out.size
 by_cases h2:1<(Wh.a_ m).length
 ·have hbig:=Wh.oV h2
  have hsh:=Wh.jb 12 m (by omega);rw [show 2 ^ 12=4096 from rfl] at hsh;have Mv:=Wh.dh (Nat.div_le_self m 4096);have PX:=PD.out m (by omega);replace PX:=wH PX;generalize m % 4096=rr,m / 4096=m2 at *;replace hown:=wH hown;clear hbig;generalize hlm:(Wh.a_ m).length=lm at *
  go_wp2_with (go_at_call 169;(with_reducible refine (PX.out _ _ _ hown.out).mono ?_);rintro e w5 ⟨v5,rfl,wW,hb5⟩;obtain ⟨a5,cap5,rfl,FD,hv5⟩:=aF.view wW;have r5:=xy.out.keep hb5;have d0:=r5.c0;have d1:=r5.c1;have g0:=r5.f0;have g1:=r5.f1;clear hv5 FD)
  have ne5:(Value.slice a5 (Wh.a_ m2).length cap5).ownBlock≠some w4.heap.size:=fun e=>by
   have:=(aF.lt wW _ e).1;omega
  have hkp:=fun u v=>World.ownsRow.kept (aF.base (base':=w3.heap.size) wW (by omega)) (cG w5 w4.heap.size u v) (Or.inr ne5)
  go_roundw
  case rel=>exact ⟨m2,c+12,a5,cap5,by go_num,by omega,by omega,wH (r5.store _ _),wH ne5,hkp _ _,((d_ hbr hb5).setCell (by omega) _).setCell (by omega) _⟩
  case measure=>simp [intOf];omega
 have hsm:=Wh.iL (n:=m) (k:=1) (by omega)
 have IJ:(m:Int)≤9999:=by
  have:(10000:Int) ^ 1=10000:=by decide
  omega
 have PX:=PL.out m;rw [Wh.rX (by omega)] at PX;replace PX:=wH PX;have hc2:=wH hc;replace hown:=wH hown
 have hcb:c≤Wh.bl N:=by omega
 clear hsm hml PD hc
 go_wp2_with (go_at_call 170;(with_reducible refine (PX.out _ _ _ hown.out).mono ?_);rintro e w6 ⟨rfl,rfl⟩)
 go_loopw [3,5] (fun vb vn wq=>∃ (m2 c2:Nat),vb=.int .i64 c2∧vn=.int .i64 m2∧c2+Wh.bl m2=Wh.bl N∧m2≤9999∧Below w.heap.size w wq) (fun _ vn _=>(intOf vn).toNat)
 case atStart=>exact ⟨m,c,rfl,rfl,hc2.out,by omega,hbr⟩
 case round=>
 obtain ⟨m2,c2,rfl,rfl,hcc,hm9,hbq⟩:=hrel
 by_cases hm0:m2=0
 ·have hcn:Hid (Wh.bl N=c2):=wH (by rw [hm0] at hcc;have:=Wh.so;omega)
  subst hm0;clear hcc;go_wp2;go_ret;exact ⟨by rw [hcn.out] <;> rfl,hbq⟩
 have hh:=Wh.kf hm0
 have t2:Int.tdiv (m2:Int) 2=((m2 / 2:Nat):Int):=by rw [Int.tdiv_eq_ediv_of_nonneg (by omega)];omega
 have hm1:0<(m2:Int):=by omega
 have hlt:m2 / 2<m2:=by omega
 have hcb2:c2≤Wh.bl N:=by omega
 have Mk:Hid (c2+1+Wh.bl (m2 / 2)=Wh.bl N):=wH (by omega);clear hcc hh;generalize m2 / 2=m3 at *;go_wp2
 go_roundw
 case rel=>exact ⟨m3,c2+1,by go_num,by go_num,Mk.out,by omega,hbq⟩
 case measure=>simp [intOf];omega
namespace Wh
theorem nJ:∀ l:List Int,(trim l).length≤l.length
 | []=>wL _
 | x :: l=>by
  have ih:=nJ l
  show (match trim l with
   | []=>if x=0 then [] else [x]
   | y :: t=>x :: y :: t).length≤(x :: l).length
  split
  ·split <;> simp
  rename_i y t h
  rw [h] at ih
  simpa using ih
theorem mH {m n:Nat} (h:(a_ m).length=n+1):∃ x,(a_ m)[n]?=some x∧0<x:=by
 have hx:(a_ m)[n]?=some (a_ m)[n]:=List.getElem?_eq_getElem (by omega);refine ⟨_,hx,?_⟩;have h0:=(bD m _ (List.mem_of_getElem? hx)).1
 by_cases hz:(a_ m)[n]=0
 ·have ht:=q8 m
  have hs:a_ m=(a_ m).take n ++ [0]:=by
   have:=(List.take_append_drop n (a_ m)).symm;rw [List.drop_eq_getElem_cons (by omega),hz,List.drop_eq_nil_of_le (by omega)] at this;exact this
  rw [hs,ii] at ht;have h1:=nJ ((a_ m).take n);rw [ht,List.length_append,List.length_take] at h1;simp at h1
  omega
 omega
end Wh
theorem kN (z:Int) (va:Value) (w:World) (ba:Nat) (ho:ak w ba va z) (hl:(Wh.a_ z.natAbs).length≤100000) :
  Calls Tryz.prog 198 #[.agg #[.bool (decide (z<0)),va]] w fun e w'=>e=.returned (.bool (decide ((Wh.a_ z.natAbs).length≤400)))∧Below w.heap.size w w':=by
 obtain ⟨aa,o_,rfl,hma,hva⟩:=aF.seen ho;have hva:=wH hva;have hla:=wH (Wh.bD z.natAbs)
 have hls:=fun n h=>Wh.mH (m:=z.natAbs) (n:=n) h
 have hz0:Hid ((Wh.a_ z.natAbs).length=0→decide (z<0)=false):=wH fun h=>by
  have:=Wh.fx.1 (List.length_eq_zero_iff.1 h);exact decide_eq_false (by omega)
 clear hma ho;generalize Wh.a_ z.natAbs=xs,decide (z<0)=s1 at *;have hls:=wH hls;have b1:=ar.new w (.bool s1) (.slice aa xs.length o_) 125;have hB:=(wK w.heap.size w).alloc (wL _) (.cells #[.bool s1,.slice aa xs.length o_] 125)
 by_cases h4:xs.length≤400
 ·rw [decide_eq_true h4]
  generalize hw3:w.alloc (.cells #[.bool s1,.slice aa xs.length o_] 125)=w3 at *;have e1:=b1.c0;have e2:=b1.c1
  by_cases hn:xs.length=0
  ·have hs:=hz0.out hn
   subst hs;have hn1:=wH hn;rw [hn] at e2 hw3 ⊢;clear hn hls hz0 b1 hl h4;go_enter Tryz.func198,Tryz.ntmps198
   go_wp2;clear e1 e2
   go_loopw [5,35] (fun _ vi wr=>∃ k:Nat,k≤0∧vi=.int .i64 k∧Below w3.heap.size w3 wr) (fun _ vi _=>0 - (intOf vi).toNat)
   case atStart=>exact ⟨0,Nat.zero_le _,rfl,wK _ _⟩
   case round=>
   obtain ⟨k,hk,rfl,hbr⟩:=hrel
   by_cases hlt:k<0
   ·obtain ⟨gb,y,eb,hgb,hyb,hcb⟩:=hva.out k (by rw [hn1.out];exact hlt)
    exact absurd hlt (Nat.not_lt_zero _)
   obtain rfl:k=0:=by omega
   go_wp2;go_ret;exact ⟨rfl,d_ hB hbr⟩
  obtain ⟨n,hn1⟩:∃ n,xs.length=n+1:=⟨xs.length - 1,by omega⟩
  obtain ⟨x,hx,hx0⟩:=hls.out n hn1;obtain ⟨ga,x',ea,hga,hxa,hca⟩:=hva.out n (by omega);subst ea;obtain rfl:=Option.some.inj (hx.symm.trans hxa.out);have Dl:=hB.cell (p:=⟨ga,n,none⟩) hga;have Bz:=Dl.trans hca
  have hxn:¬ x=0:=by omega
  have h4':n+1≤400:=by omega
  have hd1:decide (400<(n:Int)+1)=false:=decide_eq_false (by omega);have hd2:(x == 0)=false:=beq_eq_false_iff_ne.2 hxn;have hd3:((n:Int)+1 == 0)=false:=beq_eq_false_iff_ne.2 (by omega);rw [hn1] at e2 hw3 ⊢;replace hn1:=wH hn1;clear hca Dl hx hn hxa hls hz0 b1 hl h4;go_enter Tryz.func198,Tryz.ntmps198
  go_wp2;clear e1 e2 Bz hxn hx0 hd1 hd2 hd3
  go_loopw [5,35] (fun _ vi wr=>∃ k:Nat,k≤n+1∧vi=.int .i64 k∧Below w3.heap.size w3 wr) (fun _ vi _=>n+1 - (intOf vi).toNat)
  case atStart=>exact ⟨0,Nat.zero_le _,rfl,wK _ _⟩
  case round=>
  obtain ⟨k,hk,rfl,hbr⟩:=hrel
  by_cases hlt:k<n+1
  ·obtain ⟨gb,y,eb,hgb,hyb,hcb⟩:=hva.out k (by rw [hn1.out];exact hlt)
   obtain rfl:ga=gb:=by simpa using eb
   have hcb:=((d_ hB hbr).cell (p:=⟨ga,k,none⟩) hgb).trans hcb;have Fg:=hla.out y (List.mem_of_getElem? hyb.out)
   have PI:=fun W=>cK y 0 9999 W
   rw [show M.ins y 0 9999=true by unfold M.ins;unfold Wh.lim at Fg;simp;omega] at PI;replace PI:=wH PI;clear hyb Fg
   go_wp2_with (go_at_call 56;(with_reducible refine (PI.out _).mono ?_);rintro e w5 ⟨rfl,rfl⟩)
   go_roundw
   case rel=>exact ⟨k+1,by omega,by go_num,hbr⟩
   case measure=>simp [intOf];omega
  obtain rfl:k=n+1:=by omega
  go_wp2;go_ret;exact ⟨rfl,d_ hB hbr⟩
 rw [decide_eq_false h4];go_enter Tryz.func198,Tryz.ntmps198
 go_wp2;go_ret;exact ⟨rfl,hB⟩
theorem mW (l:List Int) (v:Value) (w:World) (base:Nat) (hown:aF w base v l) (h:Wh.bQ l) (hl:l.length≤100000) :
  Calls Tryz.prog 203 #[v,.int .i64 0,.int .i64 9999] w fun e w'=>e=.returned (.bool true)∧Below w.heap.size w w':=by
 obtain ⟨a,cap,rfl,hm,hv⟩:=hown.seen;have hv:=wH hv;have h:=wH h;clear hm hown;go_enter Tryz.func203,Tryz.ntmps203
 go_wp2
 go_loopw [8,11] (fun _ vi wr=>∃ k:Nat,k≤l.length∧vi=.int .i64 k∧Below w.heap.size w wr) (fun _ vi _=>l.length - (intOf vi).toNat)
 case atStart=>exact ⟨0,Nat.zero_le _,rfl,wK _ _⟩
 case round=>
 obtain ⟨k,hk,rfl,hbr⟩:=hrel
 by_cases hlt:k<l.length
 ·obtain ⟨g,y,rfl,hg,hy,hcell⟩:=hv.out k hlt
  have hc:=aE hbr hcell;have Fg:=h.out y (List.mem_of_getElem? hy.out)
  have PI:=fun W=>ch y 0 9999 W
  rw [show M.ins y 0 9999=true by unfold M.ins;unfold Wh.lim at Fg;simp;omega] at PI;replace PI:=wH PI;clear hcell hy Fg
  go_wp2_with (go_at_call 78;(with_reducible refine (PI.out _).mono ?_);rintro e w5 ⟨rfl,rfl⟩)
  go_roundw
  case rel=>exact ⟨k+1,by omega,by go_num,hbr⟩
  case measure=>simp [intOf];omega
 obtain rfl:k=l.length:=by omega
 go_wp2;go_ret;exact ⟨rfl,hbr⟩
theorem ly (z:Int) (va:Value) (w:World) (ba:Nat) (ho:ak w ba va z) (hl:(Wh.a_ z.natAbs).length≤100000) :
  Calls Tryz.prog 201 #[.agg #[.bool (decide (z<0)),va]] w fun e w'=>e=.returned (.bool (decide ((Wh.a_ z.natAbs).length≤400)))∧Below w.heap.size w w':=by
 obtain ⟨aa,o_,rfl,hma,hva⟩:=aF.seen ho;have hva:=wH hva
 have PL:=fun W (h:aF W ba (.slice aa (Wh.a_ z.natAbs).length o_) (Wh.a_ z.natAbs))=>mW (Wh.a_ z.natAbs) (.slice aa (Wh.a_ z.natAbs).length o_) W ba h (Wh.bD _) hl
 have Fi:=wH (show aF w ba (.slice aa (Wh.a_ z.natAbs).length o_) (Wh.a_ z.natAbs) from ho)
 have hls:=fun n h=>Wh.mH (m:=z.natAbs) (n:=n) h
 have hz0:Hid ((Wh.a_ z.natAbs).length=0→decide (z<0)=false):=wH fun h=>by
  have:=Wh.fx.1 (List.length_eq_zero_iff.1 h);exact decide_eq_false (by omega)
 clear hma ho;generalize Wh.a_ z.natAbs=xs,decide (z<0)=s1 at *;replace PL:=wH PL;replace hls:=wH hls;have b1:=ar.new w (.bool s1) (.slice aa xs.length o_) 125;have hB:=(wK w.heap.size w).alloc (wL _) (.cells #[.bool s1,.slice aa xs.length o_] 125)
 by_cases h4:xs.length≤400
 ·rw [decide_eq_true h4]
  have ho3:=aF.alloc Fi.out (.cells #[.bool s1,.slice aa xs.length o_] 125);generalize hw3:w.alloc (.cells #[.bool s1,.slice aa xs.length o_] 125)=w3 at *;have PX:=PL.out w3 ho3;have e1:=b1.c0;have e2:=b1.c1;have bh:=wH b1
  by_cases hn:xs.length=0
  ·have hs:=hz0.out hn
   subst hs;rw [hn] at e2 hw3 PX ⊢;replace PX:=wH PX;rw [hn] at bh;clear hn hls hz0 b1 hl h4 ho3;go_enter Tryz.func201,Tryz.ntmps201
   go_wp2_with (go_at_call 203;(with_reducible refine (PX.out).mono ?_);rintro e w5 ⟨rfl,hb5⟩;have c5:=bh.out.keep hb5;have f1:=c5.c0;have f2:=c5.c1)
   go_ret;exact ⟨rfl,d_ hB hb5⟩
  obtain ⟨n,hn1⟩:∃ n,xs.length=n+1:=⟨xs.length - 1,by omega⟩
  obtain ⟨x,hx,hx0⟩:=hls.out n hn1;obtain ⟨ga,x',ea,hga,hxa,hca⟩:=hva.out n (by omega);subst ea;obtain rfl:=Option.some.inj (hx.symm.trans hxa.out);have Dl:=hB.cell (p:=⟨ga,n,none⟩) hga;have Bz:=Dl.trans hca
  have h4':n+1≤400:=by omega
  have hd1:decide ((n:Int)+1≤400)=true:=decide_eq_true (by omega);have hd3:((n:Int)+1 == 0)=false:=beq_eq_false_iff_ne.2 (by omega);have hd4:decide (0<x)=true:=decide_eq_true hx0;rw [hn1] at e2 hw3 PX bh ⊢;replace hn1:=wH hn1;replace PX:=wH PX;clear hca Dl hx hn hxa hls hz0 b1 hl h4 ho3;go_enter Tryz.func201,Tryz.ntmps201
  go_wp2_with (go_at_call 203;(with_reducible refine (PX.out).mono ?_);rintro e w5 ⟨rfl,hb5⟩;have c5:=bh.out.keep hb5;have f1:=c5.c0;have f2:=c5.c1;have f3:=aE hb5 Bz)
  go_ret;exact ⟨rfl,d_ hB hb5⟩
 rw [decide_eq_false h4];go_enter Tryz.func201,Tryz.ntmps201
 go_wp2;go_ret;exact ⟨rfl,hB⟩
theorem gH (a:Int) (n:Nat) (va:Value) (w:World) (ba:Nat) (hoa:ak w ba va a) (hl:(Wh.a_ a.natAbs).length≤9000) (hn1:1≤n) (hn2:n≤1000000000000) :
  Calls Tryz.prog 197 #[.agg #[.bool (decide (a<0)),va],.int .i64 (n:Int)] w fun e w'=>e=.returned (.int .i64 (Nat.gcd (a.natAbs % n) n:Nat))∧Below w.heap.size w w':=by
 obtain ⟨aa,o_,rfl,-,-⟩:=aF.view hoa
 have PA:=fun W (h:aF W ba (.slice aa (Wh.a_ a.natAbs).length o_) (Wh.a_ a.natAbs))=>ik a (.slice aa (Wh.a_ a.natAbs).length o_) W ba h (by omega)
 have PD:=fun va W b (h:aF W b va (Wh.a_ a.natAbs))=>iq a.natAbs n va W b h hl hn1 hn2
 have hlt:a.natAbs % n<n:=Nat.mod_lt _ (by omega)
 have PG:=fun W=>ji ((a.natAbs % n:Nat):Int) (n:Int) W (by omega) (by omega) (by omega) (by omega)
 rw [show M.gcd ((a.natAbs % n:Nat):Int) (n:Int)=((Nat.gcd (a.natAbs % n) n:Nat):Int) from rfl] at PG;replace hoa:=wH (show aF _ _ _ _ from hoa);generalize a.natAbs=N,a.natAbs / n=q,a.natAbs % n=r,Nat.gcd (a.natAbs % n) n=g,decide (a<0)=s1 at *;have b1:=ar.new w (.bool s1) (.slice aa (Wh.a_ N).length o_) 125;have hB:=(wK w.heap.size w).alloc (wL _) (.cells #[.bool s1,.slice aa (Wh.a_ N).length o_] 125);have ho1:=aF.alloc hoa.out (.cells #[.bool s1,.slice aa (Wh.a_ N).length o_] 125);generalize hw3:w.alloc (.cells #[.bool s1,.slice aa (Wh.a_ N).length o_] 125)=w3 at *;have e1:=b1.c0;have e2:=b1.c1;replace PA:=wH PA;replace PD:=wH PD;replace PG:=wH PG;go_enter Tryz.func197,Tryz.ntmps197
 go_wp2_with (first
  | (go_at_call 182;(with_reducible refine (PA.out _ ho1).mono ?_);rintro e w4 ⟨v4,rfl,xF,hb4⟩)
  | (go_at_call 179;(with_reducible refine (PD.out _ _ _ xF).mono ?_);rintro e w5 ⟨v5,rfl,wW,hb5⟩;obtain ⟨a5,cap5,rfl,FD,hv5⟩:=aF.view wW;clear hv5 FD)
  | (go_at_call 114;(with_reducible refine (PG.out _).mono ?_);rintro e w6 ⟨rfl,m6,rfl⟩))
 go_ret;have B4:=d_ hB hb4;have B5:=d_ B4 hb5;exact ⟨rfl,aM (B5.alloc B5.size _) _⟩
structure iF (w:World) (b:Nat) (u v x y:Value):Prop where
 c0:w.cell? ⟨b,0,none⟩=some u
 c1:w.cell? ⟨b,1,none⟩=some v
 c2:w.cell? ⟨b,2,none⟩=some x
 c3:w.cell? ⟨b,3,none⟩=some y
 f0:w.frozen? ⟨b,0,none⟩=false
 f1:w.frozen? ⟨b,1,none⟩=false
 f2:w.frozen? ⟨b,2,none⟩=false
 f3:w.frozen? ⟨b,3,none⟩=false
 size:b<w.heap.size
theorem iF.keep {w w':World} {b:Nat} {u v x y:Value} (h:iF w b u v x y) (hb:Below w.heap.size w w'):iF w' b u v x y:=
 have hg:=bf hb none
 ⟨hg.cell h.c0 (by simp),hg.cell h.c1 (by simp),hg.cell h.c2 (by simp),hg.cell h.c3 (by simp),(Gr.frozen hg h.size (by simp)).trans h.f0,(Gr.frozen hg h.size (by simp)).trans h.f1,(Gr.frozen hg h.size (by simp)).trans h.f2,(Gr.frozen hg h.size (by simp)).trans h.f3,Gr.iv hg h.size⟩
theorem iF.new (w:World) (u v x y:Value) (T:TypeId):iF (w.alloc (.cells #[u,v,x,y] T)) w.heap.size u v x y:=
 ⟨by rw [World.cell?_alloc_at _ _ _ _ rfl];rfl,by rw [World.cell?_alloc_at _ _ _ _ rfl];rfl,by rw [World.cell?_alloc_at _ _ _ _ rfl];rfl,by rw [World.cell?_alloc_at _ _ _ _ rfl];rfl,by simp [go_sem],by simp [go_sem],by simp [go_sem],by simp [go_sem],by rw [wI];omega⟩
namespace Wh
def cV (x z:Int):Bool:=(decide ((a_ x.natAbs).length≤80) && M.ins (a_ z.natAbs).length 1 80) && !decide (z<0)
theorem mj {x z:Int} (h:¬ (a_ x.natAbs).length≤80):cV x z=false:=by unfold cV;rw [decide_eq_false h];rfl
theorem mn {x z:Int} (h:¬ (a_ z.natAbs).length≤80):cV x z=false:=by
 unfold cV;rw [show M.ins ((a_ z.natAbs).length:Int) 1 80=false by unfold M.ins;simp;omega];simp
end Wh
theorem kM (x z:Int) (vx vz:Value) (w:World) (bx bz:Nat) (hox:ak w bx vx x) (xZ:ak w bz vz z) (hl1:(Wh.a_ x.natAbs).length≤100000) (hl2:(Wh.a_ z.natAbs).length≤100000) :
  Calls Tryz.prog 181 #[.agg #[.bool (decide (x<0)),vx,.bool (decide (z<0)),vz]] w fun e w'=>e=.returned (.bool (Wh.cV x z))∧Below w.heap.size w w':=by
 obtain ⟨ax,cx,rfl,-,-⟩:=aF.view hox;obtain ⟨az,cz,rfl,-,-⟩:=aF.view xZ
 have P1:=fun W (h:aF W bx (.slice ax (Wh.a_ x.natAbs).length cx) (Wh.a_ x.natAbs))=>kN x (.slice ax (Wh.a_ x.natAbs).length cx) W bx h hl1
 have P2:=fun W (h:aF W bz (.slice az (Wh.a_ z.natAbs).length cz) (Wh.a_ z.natAbs))=>kN z (.slice az (Wh.a_ z.natAbs).length cz) W bz h hl2
 have Cu:Hid (∀ W,Below w.heap.size w W→aF W bx (.slice ax (Wh.a_ x.natAbs).length cx) (Wh.a_ x.natAbs)):=wH fun W h=>aF.below hox h
 have Di:Hid (∀ W,Below w.heap.size w W→aF W bz (.slice az (Wh.a_ z.natAbs).length cz) (Wh.a_ z.natAbs)):=wH fun W h=>aF.below xZ h
 have hf1:=wH fun h=>Wh.mj (x:=x) (z:=z) h
 have hf2:=wH fun h=>Wh.mn (x:=x) (z:=z) h
 have hrt:Hid (Wh.cV x z=((decide ((Wh.a_ x.natAbs).length≤80) && M.ins (Wh.a_ z.natAbs).length 1 80) && !decide (z<0))):=wH rfl;clear hox xZ;generalize Wh.a_ z.natAbs=zs,Wh.a_ x.natAbs=xs,decide (z<0)=s2,decide (x<0)=s1,Wh.cV x z=rt at *;generalize zs.length=lz,xs.length=lx at *;have b1:=iF.new w (.bool s1) (.slice ax lx cx) (.bool s2) (.slice az lz cz) 127;have hB:=(wK w.heap.size w).alloc (wL _) (.cells #[.bool s1,.slice ax lx cx,.bool s2,.slice az lz cz] 127);generalize hw3:w.alloc (.cells #[.bool s1,.slice ax lx cx,.bool s2,.slice az lz cz] 127)=w3 at *;have e0:=b1.c0;have e1:=b1.c1;have e2:=b1.c2;have e3:=b1.c3;have bh:=wH b1;clear b1
 by_cases h1:lx≤400
 ·rw [decide_eq_true h1] at P1
  replace P1:=wH P1
  by_cases h2:lz≤400
  ·rw [decide_eq_true h2] at P2
   replace P2:=wH P2
   by_cases h3:lx≤80
   ·have hd:decide ((lx:Int)≤80)=true:=decide_eq_true (by omega)
    have PI:=fun W=>cK (lz:Int) 1 80 W
    cases hi:M.ins (lz:Int) 1 80
    ·have hr:Hid (rt=false):=wH (by rw [hrt.out,hi,Bool.and_false];rfl)
     rw [hi] at PI;replace PI:=wH PI;go_enter Tryz.func181,Tryz.ntmps181
     go_wp2_with (first | (go_at_call 198;(with_reducible refine (P1.out _ (Cu.out _ hB)).mono ?_);rintro e w4 ⟨rfl,hb4⟩;have r4:=bh.out.keep hb4;have g0:=r4.c0;have g1:=r4.c1;have g2:=r4.c2;have g3:=r4.c3;have B4:=d_ hB hb4) | (go_at_call 198;(with_reducible refine (P2.out _ (Di.out _ B4)).mono ?_);rintro e w5 ⟨rfl,hb5⟩;have r5:=r4.keep hb5;have k0:=r5.c0;have k1:=r5.c1;have k2:=r5.c2;have k3:=r5.c3;have B5:=d_ B4 hb5) | (go_at_call 56;(with_reducible refine (PI.out _).mono ?_);rintro e w6 ⟨rfl,rfl⟩))
     go_ret;exact ⟨by rw [hr.out] <;> rfl,B5⟩
    have hr:Hid (rt=!s2):=wH (by rw [hrt.out,hi,decide_eq_true h3];rfl);rw [hi] at PI;replace PI:=wH PI;go_enter Tryz.func181,Tryz.ntmps181
    go_wp2_with (first | (go_at_call 198;(with_reducible refine (P1.out _ (Cu.out _ hB)).mono ?_);rintro e w4 ⟨rfl,hb4⟩;have r4:=bh.out.keep hb4;have g0:=r4.c0;have g1:=r4.c1;have g2:=r4.c2;have g3:=r4.c3;have B4:=d_ hB hb4) | (go_at_call 198;(with_reducible refine (P2.out _ (Di.out _ B4)).mono ?_);rintro e w5 ⟨rfl,hb5⟩;have r5:=r4.keep hb5;have k0:=r5.c0;have k1:=r5.c1;have k2:=r5.c2;have k3:=r5.c3;have B5:=d_ B4 hb5) | (go_at_call 56;(with_reducible refine (PI.out _).mono ?_);rintro e w6 ⟨rfl,rfl⟩))
    go_ret;exact ⟨by rw [hr.out] <;> rfl,B5⟩
   have hd:decide ((lx:Int)≤80)=false:=decide_eq_false (by omega);have hr:=wH (hf1.out h3);go_enter Tryz.func181,Tryz.ntmps181
   go_wp2_with (first | (go_at_call 198;(with_reducible refine (P1.out _ (Cu.out _ hB)).mono ?_);rintro e w4 ⟨rfl,hb4⟩;have r4:=bh.out.keep hb4;have g0:=r4.c0;have g1:=r4.c1;have g2:=r4.c2;have g3:=r4.c3;have B4:=d_ hB hb4) | (go_at_call 198;(with_reducible refine (P2.out _ (Di.out _ B4)).mono ?_);rintro e w5 ⟨rfl,hb5⟩;have r5:=r4.keep hb5;have k0:=r5.c0;have k1:=r5.c1;have k2:=r5.c2;have k3:=r5.c3;have B5:=d_ B4 hb5))
   go_ret;exact ⟨by rw [hr.out] <;> rfl,B5⟩
  rw [decide_eq_false h2] at P2;replace P2:=wH P2;have hr:=wH (hf2.out (by omega));go_enter Tryz.func181,Tryz.ntmps181
  go_wp2_with (first | (go_at_call 198;(with_reducible refine (P1.out _ (Cu.out _ hB)).mono ?_);rintro e w4 ⟨rfl,hb4⟩;have r4:=bh.out.keep hb4;have g0:=r4.c0;have g1:=r4.c1;have g2:=r4.c2;have g3:=r4.c3;have B4:=d_ hB hb4) | (go_at_call 198;(with_reducible refine (P2.out _ (Di.out _ B4)).mono ?_);rintro e w5 ⟨rfl,hb5⟩;have r5:=r4.keep hb5;have k0:=r5.c0;have k1:=r5.c1;have k2:=r5.c2;have k3:=r5.c3;have B5:=d_ B4 hb5))
  go_ret;exact ⟨by rw [hr.out] <;> rfl,B5⟩
 rw [decide_eq_false h1] at P1;replace P1:=wH P1;have hr:=wH (hf1.out (by omega));go_enter Tryz.func181,Tryz.ntmps181
 go_wp2_with (first | (go_at_call 198;(with_reducible refine (P1.out _ (Cu.out _ hB)).mono ?_);rintro e w4 ⟨rfl,hb4⟩;have r4:=bh.out.keep hb4;have g0:=r4.c0;have g1:=r4.c1;have g2:=r4.c2;have g3:=r4.c3;have B4:=d_ hB hb4))
 go_ret;exact ⟨by rw [hr.out] <;> rfl,B4⟩
theorem nP (x z:Int) (vx vz:Value) (w:World) (bx bz:Nat) (hox:ak w bx vx x) (xZ:ak w bz vz z) (hl1:(Wh.a_ x.natAbs).length≤100000) (hl2:(Wh.a_ z.natAbs).length≤100000) :
  Calls Tryz.prog 190 #[.agg #[.bool (decide (x<0)),vx,.bool (decide (z<0)),vz]] w fun e w'=>e=.returned (.bool (Wh.cV x z))∧Below w.heap.size w w':=by
 obtain ⟨ax,cx,rfl,-,-⟩:=aF.view hox;obtain ⟨az,cz,rfl,-,-⟩:=aF.view xZ
 have P1:=fun W (h:aF W bx (.slice ax (Wh.a_ x.natAbs).length cx) (Wh.a_ x.natAbs))=>ly x (.slice ax (Wh.a_ x.natAbs).length cx) W bx h hl1
 have P2:=fun W (h:aF W bz (.slice az (Wh.a_ z.natAbs).length cz) (Wh.a_ z.natAbs))=>ly z (.slice az (Wh.a_ z.natAbs).length cz) W bz h hl2
 have Cu:Hid (∀ W,Below w.heap.size w W→aF W bx (.slice ax (Wh.a_ x.natAbs).length cx) (Wh.a_ x.natAbs)):=wH fun W h=>aF.below hox h
 have Di:Hid (∀ W,Below w.heap.size w W→aF W bz (.slice az (Wh.a_ z.natAbs).length cz) (Wh.a_ z.natAbs)):=wH fun W h=>aF.below xZ h
 have hf1:=wH fun h=>Wh.mj (x:=x) (z:=z) h
 have hf2:=wH fun h=>Wh.mn (x:=x) (z:=z) h
 have hrt:Hid (Wh.cV x z=((decide ((Wh.a_ x.natAbs).length≤80) && M.ins (Wh.a_ z.natAbs).length 1 80) && !decide (z<0))):=wH rfl;clear hox xZ;generalize Wh.a_ z.natAbs=zs,Wh.a_ x.natAbs=xs,decide (z<0)=s2,decide (x<0)=s1,Wh.cV x z=rt at *;generalize zs.length=lz,xs.length=lx at *;have b1:=iF.new w (.bool s1) (.slice ax lx cx) (.bool s2) (.slice az lz cz) 127;have hB:=(wK w.heap.size w).alloc (wL _) (.cells #[.bool s1,.slice ax lx cx,.bool s2,.slice az lz cz] 127);generalize hw3:w.alloc (.cells #[.bool s1,.slice ax lx cx,.bool s2,.slice az lz cz] 127)=w3 at *;have e0:=b1.c0;have e1:=b1.c1;have e2:=b1.c2;have e3:=b1.c3;have bh:=wH b1;clear b1
 by_cases h1:lx≤400
 ·rw [decide_eq_true h1] at P1
  replace P1:=wH P1
  by_cases h2:lz≤400
  ·rw [decide_eq_true h2] at P2
   replace P2:=wH P2
   by_cases h3:lx≤80
   ·have hd:decide ((lx:Int)≤80)=true:=decide_eq_true (by omega)
    have PI:=fun W=>ch (lz:Int) 1 80 W
    cases hi:M.ins (lz:Int) 1 80
    ·have hr:Hid (rt=false):=wH (by rw [hrt.out,hi,Bool.and_false];rfl)
     rw [hi] at PI;replace PI:=wH PI;go_enter Tryz.func190,Tryz.ntmps190
     go_wp2_with (first | (go_at_call 201;(with_reducible refine (P1.out _ (Cu.out _ hB)).mono ?_);rintro e w4 ⟨rfl,hb4⟩;have r4:=bh.out.keep hb4;have g0:=r4.c0;have g1:=r4.c1;have g2:=r4.c2;have g3:=r4.c3;have B4:=d_ hB hb4) | (go_at_call 201;(with_reducible refine (P2.out _ (Di.out _ B4)).mono ?_);rintro e w5 ⟨rfl,hb5⟩;have r5:=r4.keep hb5;have k0:=r5.c0;have k1:=r5.c1;have k2:=r5.c2;have k3:=r5.c3;have B5:=d_ B4 hb5) | (go_at_call 78;(with_reducible refine (PI.out _).mono ?_);rintro e w6 ⟨rfl,rfl⟩))
     go_ret;exact ⟨by rw [hr.out] <;> rfl,B5⟩
    have hr:Hid (rt=!s2):=wH (by rw [hrt.out,hi,decide_eq_true h3];rfl);rw [hi] at PI;replace PI:=wH PI;go_enter Tryz.func190,Tryz.ntmps190
    go_wp2_with (first | (go_at_call 201;(with_reducible refine (P1.out _ (Cu.out _ hB)).mono ?_);rintro e w4 ⟨rfl,hb4⟩;have r4:=bh.out.keep hb4;have g0:=r4.c0;have g1:=r4.c1;have g2:=r4.c2;have g3:=r4.c3;have B4:=d_ hB hb4) | (go_at_call 201;(with_reducible refine (P2.out _ (Di.out _ B4)).mono ?_);rintro e w5 ⟨rfl,hb5⟩;have r5:=r4.keep hb5;have k0:=r5.c0;have k1:=r5.c1;have k2:=r5.c2;have k3:=r5.c3;have B5:=d_ B4 hb5) | (go_at_call 78;(with_reducible refine (PI.out _).mono ?_);rintro e w6 ⟨rfl,rfl⟩))
    go_ret;exact ⟨by rw [hr.out] <;> rfl,B5⟩
   have hd:decide ((lx:Int)≤80)=false:=decide_eq_false (by omega);have hr:=wH (hf1.out h3);go_enter Tryz.func190,Tryz.ntmps190
   go_wp2_with (first | (go_at_call 201;(with_reducible refine (P1.out _ (Cu.out _ hB)).mono ?_);rintro e w4 ⟨rfl,hb4⟩;have r4:=bh.out.keep hb4;have g0:=r4.c0;have g1:=r4.c1;have g2:=r4.c2;have g3:=r4.c3;have B4:=d_ hB hb4) | (go_at_call 201;(with_reducible refine (P2.out _ (Di.out _ B4)).mono ?_);rintro e w5 ⟨rfl,hb5⟩;have r5:=r4.keep hb5;have k0:=r5.c0;have k1:=r5.c1;have k2:=r5.c2;have k3:=r5.c3;have B5:=d_ B4 hb5))
   go_ret;exact ⟨by rw [hr.out] <;> rfl,B5⟩
  rw [decide_eq_false h2] at P2;replace P2:=wH P2;have hr:=wH (hf2.out (by omega));go_enter Tryz.func190,Tryz.ntmps190
  go_wp2_with (first | (go_at_call 201;(with_reducible refine (P1.out _ (Cu.out _ hB)).mono ?_);rintro e w4 ⟨rfl,hb4⟩;have r4:=bh.out.keep hb4;have g0:=r4.c0;have g1:=r4.c1;have g2:=r4.c2;have g3:=r4.c3;have B4:=d_ hB hb4) | (go_at_call 201;(with_reducible refine (P2.out _ (Di.out _ B4)).mono ?_);rintro e w5 ⟨rfl,hb5⟩;have r5:=r4.keep hb5;have k0:=r5.c0;have k1:=r5.c1;have k2:=r5.c2;have k3:=r5.c3;have B5:=d_ B4 hb5))
  go_ret;exact ⟨by rw [hr.out] <;> rfl,B5⟩
 rw [decide_eq_false h1] at P1;replace P1:=wH P1;have hr:=wH (hf1.out (by omega));go_enter Tryz.func190,Tryz.ntmps190
 go_wp2_with (first | (go_at_call 201;(with_reducible refine (P1.out _ (Cu.out _ hB)).mono ?_);rintro e w4 ⟨rfl,hb4⟩;have r4:=bh.out.keep hb4;have g0:=r4.c0;have g1:=r4.c1;have g2:=r4.c2;have g3:=r4.c3;have B4:=d_ hB hb4))
 go_ret;exact ⟨by rw [hr.out] <;> rfl,B4⟩
def bq (w:World) (g:Nat) (zs:List Int):Prop:=
 ∀ (k:Nat) (z:Int),zs[k]?=some z→∃ (a:Option Addr) (cap:Nat),w.cell? ⟨g,k*2,none⟩=some (.bool (decide (z<0)))∧w.cell? ⟨g,k*2+1,none⟩=some (.slice a (Wh.a_ z.natAbs).length cap)∧aF w 0 (.slice a (Wh.a_ z.natAbs).length cap) (Wh.a_ z.natAbs)
theorem bq.below {w w':World} {g:Nat} {zs:List Int} (h:bq w g zs) (hb:Below w.heap.size w w'):bq w' g zs:=fun k z hz=>by
 obtain ⟨a,cap,h1,h2,h3⟩:=h k z hz;exact ⟨a,cap,aE hb h1,aE hb h2,aF.below h3 hb⟩
def Wh.small (z:Int):Prop:=(a_ z.natAbs).length≤9000
theorem iw (zs:List Int) (g cap:Nat) (w:World) (hw:bq w g zs) (hl:zs.length≤100) (hs1:∀ z ∈ zs,Wh.small z) (hs2:∀ k,Wh.small ((zs.take k).foldl (·+·) 0)) :
  Calls Tryz.prog 176 #[.slice (some ⟨g,0,none⟩) zs.length cap] w fun e w'=>∃ sl,e=.returned (.agg #[.bool (decide (zs.foldl (·+·) 0<0)),sl])∧ak w' w.heap.size sl (zs.foldl (·+·) 0)∧Below w.heap.size w w':=by
 obtain ⟨T,hT⟩:∃ T,Hid (zs.foldl (·+·) 0=T):=⟨_,wH rfl⟩
 rw [hT.out]
 obtain ⟨sT,BT⟩:∃ s,Hid (decide (T<0)=s):=⟨_,wH rfl⟩
 rw [BT.out];have hw:=wH hw;have hs1:=wH hs1;have hs2:=wH hs2;have b3:=(ar.new w (.bool false) (.slice none 0 0) 125).alloc (.cells #[.bool false,.slice none 0 0] 125);have b4:=ar.new2 w (.cells #[.bool false,.slice none 0 0] 125) (.bool false) (.slice none 0 0) 125;have hB:=((wK w.heap.size w).alloc (wL _) (.cells #[.bool false,.slice none 0 0] 125)).alloc (by rw [wI];omega) (.cells #[.bool false,.slice none 0 0] 125);generalize hw3:(w.alloc (.cells #[.bool false,.slice none 0 0] 125)).alloc (.cells #[.bool false,.slice none 0 0] 125)=w3 at *;have e0:=b4.c0;have e1:=b4.c1;have e2:=b4.f0;have e3:=b4.f1;go_enter Tryz.func176,Tryz.ntmps176
 go_wp2;have q4:=b4.store (.bool false) (.slice none 0 0);have q3:=b3.other (c:=w.heap.size+1) (by omega) (.bool false) (.slice none 0 0);have qB:=(hB.setCell (p:=⟨w.heap.size+1,0,none⟩) (Nat.le_succ _) (.bool false)).setCell (p:=⟨w.heap.size+1,1,none⟩) (Nat.le_succ _) (.slice none 0 0);clear e0 e1 e2 e3
 go_loopw [9] (fun vi wr=>∃ (k:Nat) (a:Option Addr) (cx:Nat),k≤zs.length∧vi=.int .i64 k∧Hid (ar wr (w.heap.size+1) (.bool (decide ((zs.take k).foldl (·+·) 0<0))) (.slice a (Wh.a_ ((zs.take k).foldl (·+·) 0).natAbs).length cx))∧Hid (ar wr w.heap.size (.bool false) (.slice none 0 0))∧aF wr (w.heap.size+2) (.slice a (Wh.a_ ((zs.take k).foldl (·+·) 0).natAbs).length cx) (Wh.a_ ((zs.take k).foldl (·+·) 0).natAbs)∧Below w.heap.size w wr) (fun vi _=>zs.length - (intOf vi).toNat)
 case atStart=>exact ⟨0,none,0,Nat.zero_le _,rfl,by simpa [Wh.cZ] using wH q4,wH q3,by simpa [Wh.cZ] using aF.nil _ _,qB⟩
 case round=>
 clear b3 b4 hB q3 q4 qB;obtain ⟨k,a,cx,hk,rfl,xy,Ba,hown,hbr⟩:=hrel;have c0:=xy.out.c0;have c1:=xy.out.c1;have f0:=xy.out.f0;have f1:=xy.out.f1;have z0:=xy.out.size
 by_cases hlt:k<zs.length
 ·obtain ⟨z,hz⟩:∃ z,zs[k]?=some z:=⟨_,List.getElem?_eq_getElem hlt⟩
  obtain ⟨az,cz,d0,d1,d2⟩:=(hw.out.below hbr) k z hz;have hA:=hs2.out k;have hA2:=hs2.out (k+1);have hzs:=hs1.out z (List.mem_of_getElem? hz)
  have hnx:(zs.take (k+1)).foldl (·+·) 0=(zs.take k).foldl (·+·) 0+z:=by rw [List.take_add_one,hz,List.foldl_append];rfl
  rw [hnx] at hA2;have hnx:=wH hnx;have g0:=Ba.out.size;clear hz;generalize (zs.take k).foldl (·+·) 0=A at *;unfold Wh.small at hA hA2 hzs
  have PA:=fun W b1 b2 (h1:aF W b1 (.slice a (Wh.a_ A.natAbs).length cx) (Wh.a_ A.natAbs)) (h2:aF W b2 (.slice az (Wh.a_ z.natAbs).length cz) (Wh.a_ z.natAbs))=>fS A z (.slice a (Wh.a_ A.natAbs).length cx) (.slice az (Wh.a_ z.natAbs).length cz) W b1 b2 h1 h2 (by omega) (by omega)
  generalize A+z=B,decide (z<0)=sz,decide (A<0)=sA at *;generalize hsB:decide (B<0)=sB at *;generalize Wh.a_ z.natAbs=ys,Wh.a_ A.natAbs=xs at *;generalize ys.length=l2,xs.length=l1 at *;replace PA:=wH PA;have ho2:=aF.alloc hown (.cells #[.bool sz,.slice az l2 cz] 125);have hz2:=aF.alloc d2 (.cells #[.bool sz,.slice az l2 cz] 125)
  have bA:=(xy.out.alloc (.cells #[.bool sz,.slice az l2 cz] 125))
  have bZ:=(Ba.out.alloc (.cells #[.bool sz,.slice az l2 cz] 125))
  have hB2:=hbr.alloc hbr.size (.cells #[.bool sz,.slice az l2 cz] 125);have hza:(wr.alloc (.cells #[.bool sz,.slice az l2 cz] 125)).heap.size=wr.heap.size+1:=wI _ _;clear d2 hown
  go_wp2_with (go_at_call 140;(with_reducible refine (PA.out _ _ _ ho2 hz2).mono ?_);rintro e w5 ⟨v5,rfl,wW,hb5⟩;obtain ⟨a5,cap5,rfl,FD,hv5⟩:=aF.view wW;have r5:=bA.keep hb5;have k0:=r5.c0;have k1:=r5.c1;have k2:=r5.f0;have k3:=r5.f1;have t5:=bZ.keep hb5;clear hv5 FD)
  have xp:=aF.past (aF.base (base':=w.heap.size+2) wW (by omega)) (Nat.lt_succ_self (w.heap.size+1)) (.bool sB) (.slice a5 (Wh.a_ B.natAbs).length cap5);have MO:=((d_ hB2 hb5).setCell (p:=⟨w.heap.size+1,0,none⟩) (Nat.le_succ _) (.bool sB)).setCell (p:=⟨w.heap.size+1,1,none⟩) (Nat.le_succ _) (.slice a5 (Wh.a_ B.natAbs).length cap5);have q4:=r5.store (.bool sB) (.slice a5 (Wh.a_ B.natAbs).length cap5);have q3:=t5.other (c:=w.heap.size+1) (by omega) (.bool sB) (.slice a5 (Wh.a_ B.natAbs).length cap5)
  go_roundw
  case rel=>exact ⟨k+1,a5,cap5,by omega,by go_num,by rw [hnx.out,hsB];exact wH q4,wH q3,by rw [hnx.out];exact xp,MO⟩
  case measure=>simp [intOf];omega
 obtain rfl:k=zs.length:=by omega
 rw [List.take_length] at *;have g0:=Ba.out.c0;have g1:=Ba.out.c1;have g2:=Ba.out.f0;have g3:=Ba.out.f1;have hr:=cF (w:=w) w.heap.size _ (.bool sT) (wL _) (by omega) hown hbr;rw [hT.out] at hr c0 c1;rw [BT.out] at c0;generalize (Wh.a_ T.natAbs).length=yE at *;clear hw hs1 hs2 hown xy;go_wp2;exact bodyPost_ret (v:=.agg #[.bool sT,.slice a yE cx]) (by simp [results,Tryz.results176,go_sem, *]) rfl (⟨_,rfl,hr.1,hr.2⟩)
theorem bg (zs:List Int) (g cap:Nat) (w:World) (hw:bq w g zs) (hl:zs.length≤100) (hs1:∀ z ∈ zs,Wh.small z) (hs2:∀ k,Wh.small ((zs.take k).foldl (·*·) 1)) :
  Calls Tryz.prog 177 #[.slice (some ⟨g,0,none⟩) zs.length cap] w fun e w'=>∃ sl,e=.returned (.agg #[.bool (decide (zs.foldl (·*·) 1<0)),sl])∧ak w' w.heap.size sl (zs.foldl (·*·) 1)∧Below w.heap.size w w':=by
 obtain ⟨T,hT⟩:∃ T,Hid (zs.foldl (·*·) 1=T):=⟨_,wH rfl⟩
 rw [hT.out]
 obtain ⟨sT,BT⟩:∃ s,Hid (decide (T<0)=s):=⟨_,wH rfl⟩
 rw [BT.out];replace hw:=wH hw;replace hs1:=wH hs1;replace hs2:=wH hs2;have b3:=ar.new w (.bool false) (.slice none 0 0) 125;have hB:=(wK w.heap.size w).alloc (wL _) (.cells #[.bool false,.slice none 0 0] 125);generalize hw3:w.alloc (.cells #[.bool false,.slice none 0 0] 125)=w3 at *
 have PW:=fun W=>bj 1 W (by omega) (by omega)
 rw [decide_eq_false (show ¬ (1:Int)<0 by decide)] at PW;replace PW:=wH PW;have hz3:=b3.size;go_enter Tryz.func177,Tryz.ntmps177
 go_wp2_with (go_at_call 139;(with_reducible refine (PW.out _).mono ?_);rintro e w5 ⟨v5,rfl,wW,hb5⟩;obtain ⟨a5,cap5,rfl,FD,hv5⟩:=aF.view wW;clear hv5 FD)
 have q4:=ar.new w5 (.bool false) (.slice a5 (Wh.a_ (1:Int).natAbs).length cap5) 125;have q3:=(b3.keep hb5).alloc (.cells #[.bool false,.slice a5 (Wh.a_ (1:Int).natAbs).length cap5] 125);have B5:=d_ hB hb5;have qB:=B5.alloc B5.size (.cells #[.bool false,.slice a5 (Wh.a_ (1:Int).natAbs).length cap5] 125);have qo:=aF.base (base':=w.heap.size+1) (aF.alloc wW (.cells #[.bool false,.slice a5 (Wh.a_ (1:Int).natAbs).length cap5] 125)) (by omega)
 have ne:(Value.slice a5 (Wh.a_ (1:Int).natAbs).length cap5).ownBlock≠some w5.heap.size:=fun e=>by
  have:=(aF.lt wW _ e).2;omega
 have hzc:w.heap.size<w5.heap.size:=by have:=hb5.size;omega
 generalize hC:w5.heap.size=C at q4 ne hzc ⊢;clear wW b3 hb5 B5
 go_loopw [9] (fun vi wr=>∃ (k:Nat) (a:Option Addr) (cx:Nat),k≤zs.length∧vi=.int .i64 k∧Hid (ar wr C (.bool (decide ((zs.take k).foldl (·*·) 1<0))) (.slice a (Wh.a_ ((zs.take k).foldl (·*·) 1).natAbs).length cx))∧Hid (ar wr w.heap.size (.bool false) (.slice none 0 0))∧aF wr (w.heap.size+1) (.slice a (Wh.a_ ((zs.take k).foldl (·*·) 1).natAbs).length cx) (Wh.a_ ((zs.take k).foldl (·*·) 1).natAbs)∧Hid ((Value.slice a (Wh.a_ ((zs.take k).foldl (·*·) 1).natAbs).length cx).ownBlock≠some C)∧Below w.heap.size w wr) (fun vi _=>zs.length - (intOf vi).toNat)
 case atStart=>exact ⟨0,a5,cap5,Nat.zero_le _,rfl,wH q4,wH q3,qo,wH ne,qB⟩
 case round=>
 clear hB q3 q4 qB qo ne;obtain ⟨k,a,cx,hk,rfl,xy,Ba,hown,hne,hbr⟩:=hrel;have c0:=xy.out.c0;have c1:=xy.out.c1;have f0:=xy.out.f0;have f1:=xy.out.f1;have z0:=xy.out.size
 by_cases hlt:k<zs.length
 ·obtain ⟨z,hz⟩:∃ z,zs[k]?=some z:=⟨_,List.getElem?_eq_getElem hlt⟩
  obtain ⟨az,cz,d0,d1,d2⟩:=(hw.out.below hbr) k z hz;have hA:=hs2.out k;have hA2:=hs2.out (k+1);have hzs:=hs1.out z (List.mem_of_getElem? hz)
  have hnx:(zs.take (k+1)).foldl (·*·) 1=(zs.take k).foldl (·*·) 1*z:=by rw [List.take_add_one,hz,List.foldl_append];rfl
  rw [hnx] at hA2;have hnx:=wH hnx;have g0:=Ba.out.size;clear hz;generalize (zs.take k).foldl (·*·) 1=A at *;unfold Wh.small at hA hA2 hzs
  have PA:=fun W b1 b2 (h1:aF W b1 (.slice a (Wh.a_ A.natAbs).length cx) (Wh.a_ A.natAbs)) (h2:aF W b2 (.slice az (Wh.a_ z.natAbs).length cz) (Wh.a_ z.natAbs))=>ci A z (.slice a (Wh.a_ A.natAbs).length cx) (.slice az (Wh.a_ z.natAbs).length cz) W b1 b2 h1 h2 (by omega) (by omega)
  generalize A*z=B,decide (z<0)=sz,decide (A<0)=sA at *;generalize hsB:decide (B<0)=sB at *;generalize Wh.a_ z.natAbs=ys,Wh.a_ A.natAbs=xs at *;generalize ys.length=l2,xs.length=l1 at *;replace PA:=wH PA;have ho2:=aF.alloc hown (.cells #[.bool sz,.slice az l2 cz] 125);have hz2:=aF.alloc d2 (.cells #[.bool sz,.slice az l2 cz] 125)
  have bA:=(xy.out.alloc (.cells #[.bool sz,.slice az l2 cz] 125))
  have bZ:=(Ba.out.alloc (.cells #[.bool sz,.slice az l2 cz] 125))
  have hB2:=hbr.alloc hbr.size (.cells #[.bool sz,.slice az l2 cz] 125);have hza:(wr.alloc (.cells #[.bool sz,.slice az l2 cz] 125)).heap.size=wr.heap.size+1:=wI _ _;clear d2 hown
  go_wp2_with (go_at_call 138;(with_reducible refine (PA.out _ _ _ ho2 hz2).mono ?_);rintro e w6 ⟨v6,rfl,Fh,hb6⟩;obtain ⟨a6,cap6,rfl,Mu,hv6⟩:=aF.view Fh;have r5:=bA.keep hb6;have k0:=r5.c0;have k1:=r5.c1;have k2:=r5.f0;have k3:=r5.f1;have t5:=bZ.keep hb6;clear hv6 Mu)
  have ne6:(Value.slice a6 (Wh.a_ B.natAbs).length cap6).ownBlock≠some C:=fun e=>by
   have:=(aF.lt Fh _ e).1;omega
  have xp:=fun u v=>World.ownsRow.kept (aF.base (base':=w.heap.size+1) Fh (by omega)) (cG w6 C u v) (Or.inr ne6)
  have MO:=((d_ hB2 hb6).setCell (p:=⟨C,0,none⟩) (Nat.le_of_lt hzc) (.bool sB)).setCell (p:=⟨C,1,none⟩) (Nat.le_of_lt hzc) (.slice a6 (Wh.a_ B.natAbs).length cap6);have q4:=r5.store (.bool sB) (.slice a6 (Wh.a_ B.natAbs).length cap6);have q3:=t5.other (c:=C) (by omega) (.bool sB) (.slice a6 (Wh.a_ B.natAbs).length cap6)
  go_roundw
  case rel=>exact ⟨k+1,a6,cap6,by omega,by go_num,by rw [hnx.out,hsB];exact wH q4,wH q3,by rw [hnx.out];exact xp _ _,by rw [hnx.out];exact wH ne6,MO⟩
  case measure=>simp [intOf];omega
 obtain rfl:k=zs.length:=by omega
 rw [List.take_length] at *;have g0:=Ba.out.c0;have g1:=Ba.out.c1;have g2:=Ba.out.f0;have g3:=Ba.out.f1;have hr:=cF (w:=w) w.heap.size _ (.bool sT) (wL _) (by omega) hown hbr;rw [hT.out] at hr c0 c1;rw [BT.out] at c0;generalize (Wh.a_ T.natAbs).length=yE at *;clear hw hs1 hs2 hown xy hne;go_wp2;exact bodyPost_ret (v:=.agg #[.bool sT,.slice a yE cx]) (by simp [results,Tryz.results177,go_sem, *]) rfl (⟨_,rfl,hr.1,hr.2⟩)
end
section
namespace Wh
def sz (z:Int) (n:Nat):Prop:=z.natAbs<10000 ^ n
theorem aY {z:Int} {n:Nat}:(a_ z.natAbs).length≤n ↔ sz z n:=by
 constructor
 ·intro h
  have h1:=iL h;have h2:((10000 ^ n:Nat):Int)=(10000:Int) ^ n:=Int.natCast_pow 10000 n;unfold sz;generalize (10000:Int) ^ n=P at *;generalize 10000 ^ n=Q at *;omega
 intro h;exact dJ h
theorem aN {z:Int} {m n:Nat} (h:sz z m) (hmn:m≤n):sz z n:=Nat.lt_of_lt_of_le h (Nat.pow_le_pow_right (by decide) hmn)
theorem bB {x y:Int} {m n:Nat} (hx:sz x m) (hy:sz y n):sz (x*y) (m+n):=by
 unfold sz at *;rw [Int.natAbs_mul,Nat.pow_add];exact Nat.mul_lt_mul'' hx hy
theorem fm {x y:Int} {n:Nat} (hx:sz x n) (hy:sz y n):sz (x+y) (n+1):=by
 unfold sz at *;rw [Nat.pow_succ];have:=Int.natAbs_add_le x y;have hp:0<10000 ^ n:=Nat.pow_pos (by decide);omega
theorem ie {x:Int} {n:Nat} (hx:sz x n):sz (-x) n:=by unfold sz at *;rwa [Int.natAbs_neg]
theorem lW {x y:Int} {n:Nat} (hx:sz x n) (hy:sz y n):sz (x - y) (n+1):=by
 rw [Int.sub_eq_add_neg];exact fm hx (ie hy)
theorem cH {z:Int} {n:Nat} (h:sz z n) (hn:n≤9000):small z:=Nat.le_trans (aY.2 h) hn
theorem sQ:sz 1 1:=by unfold sz;decide
theorem ti:sz 0 1:=by unfold sz;decide
theorem bc {n:Int} (h1:-1000000000000000000≤n) (h2:n≤1000000000000000000):sz n 5:=by
 unfold sz
 have:(10000:Nat) ^ 5=100000000000000000000:=by decide
 omega
theorem pQ:∀ (zs:List Int) (m:Nat),(∀ z ∈ zs,sz z m)→∀ (a:Int) (n:Nat),sz a n→sz (zs.foldl (·*·) a) (n+zs.length*m)
 | [],m,_,a,n,h=>by simpa using h
 | z :: zs,m,hz,a,n,h=>by
  rw [List.foldl_cons,List.length_cons,show n+(zs.length+1)*m=(n+m)+zs.length*m by rw [Nat.succ_mul];omega];exact pQ zs m (fun y hy=>hz y (List.mem_cons_of_mem _ hy)) _ _ (bB h (hz z List.mem_cons_self))
theorem iD {zs:List Int} {m:Nat} (h:∀ z ∈ zs,sz z m) (k:Nat):sz ((zs.take k).foldl (·*·) 1) (1+zs.length*m):=by
 have:=pQ (zs.take k) m (fun z hz=>h z (List.mem_of_mem_take hz)) 1 1 sQ;refine aN this ?_
 have:(zs.take k).length≤zs.length:=by rw [List.length_take];omega
 have:=Nat.mul_le_mul_right m this;omega
theorem sR:∀ (zs:List Int) (m:Nat),(∀ z ∈ zs,sz z m)→∀ (a:Int) (n:Nat),m≤n→sz a n→sz (zs.foldl (·+·) a) (n+zs.length)
 | [],m,_,a,n,_,h=>by simpa using h
 | z :: zs,m,hz,a,n,hmn,h=>by
  rw [List.foldl_cons,List.length_cons,show n+(zs.length+1)=(n+1)+zs.length by omega];exact sR zs m (fun y hy=>hz y (List.mem_cons_of_mem _ hy)) _ _ (by omega) (fm h (aN (hz z List.mem_cons_self) hmn))
theorem lX {zs:List Int} {m:Nat} (h:∀ z ∈ zs,sz z m) (hm:1≤m) (k:Nat):sz ((zs.take k).foldl (·+·) 0) (m+zs.length):=by
 have:=sR (zs.take k) m (fun z hz=>h z (List.mem_of_mem_take hz)) 0 m (wL _) (aN ti hm);refine aN this ?_
 have:(zs.take k).length≤zs.length:=by rw [List.length_take];omega
 omega
def aw (a b x z:Int):Int:=x*x*x*x - 2*a*x*x*z*z - 8*b*x*z*z*z+a*a*z*z*z*z
def am (a b x z:Int):Int:=4*z*(x*x*x+a*x*z*z+b*z*z*z)
theorem qR (a b x z:Int):[[x,x,x,x].foldl (·*·) 1,[-2*a,x,x,z,z].foldl (·*·) 1,[-8*b,x,z,z,z].foldl (·*·) 1,[a*a,z,z,z,z].foldl (·*·) 1].foldl (·+·) 0=aw a b x z:=by
 simp only [List.foldl_cons,List.foldl_nil];unfold aw
 grind
theorem nH (a b x z:Int):((x*x*(x*x) - x*x*(z*z)*(2*a)) - x*z*(z*z)*(8*b))+z*z*(z*z)*(a*a)=aw a b x z:=by
 unfold aw
 grind
theorem pi (a b x z:Int):[4,z,[[x,x,x].foldl (·*·) 1,[a,x,z,z].foldl (·*·) 1,[b,z,z,z].foldl (·*·) 1].foldl (·+·) 0].foldl (·*·) 1=am a b x z:=by
 simp only [List.foldl_cons,List.foldl_nil];unfold am
 grind
theorem l9 (a b x z:Int):z*(x*x*x+x*(z*z)*a+z*(z*z)*b)*4=am a b x z:=by
 unfold am
 grind
end Wh
end
section
open Go.RowKit
theorem dZ (a:Int) (va:Value) (w:World) (ba:Nat) (hoa:ak w ba va a) (hl1:(Wh.a_ a.natAbs).length≤10000) :
  Calls Tryz.prog 183 #[.agg #[.bool (decide (a<0)),va]] w fun e w'=>∃ sl,e=.returned (.agg #[.bool (decide (a*a<0)),sl])∧ak w' w.heap.size sl (a*a)∧Below w.heap.size w w':=by
 obtain ⟨aa,o_,rfl,-,-⟩:=aF.view hoa
 have PA:=fun W (h1:aF W ba (.slice aa (Wh.a_ a.natAbs).length o_) (Wh.a_ a.natAbs))=>dg a a (.slice aa (Wh.a_ a.natAbs).length o_) (.slice aa (Wh.a_ a.natAbs).length o_) W ba ba h1 h1 hl1 hl1
 replace hoa:=wH (show aF _ _ _ _ from hoa);generalize Wh.a_ a.natAbs=xs,a*a=z,decide (a<0)=s1 at *;generalize decide (z<0)=s,xs.length=l1 at *;replace PA:=wH PA;have n1:=(ar.new w (.bool s1) (.slice aa l1 o_) 125).alloc (.cells #[.bool false,.slice none 0 0] 125);have n3:=ar.new2 w (.cells #[.bool s1,.slice aa l1 o_] 125) (.bool false) (.slice none 0 0) 125;have Bn:=((wK w.heap.size w).alloc (wL _) (.cells #[.bool s1,.slice aa l1 o_] 125)).alloc (by rw [wI];omega) (.cells #[.bool false,.slice none 0 0] 125);have ho3:=aF.alloc (aF.alloc hoa.out (.cells #[.bool s1,.slice aa l1 o_] 125)) (.cells #[.bool false,.slice none 0 0] 125);generalize hw3:(w.alloc (.cells #[.bool s1,.slice aa l1 o_] 125)).alloc (.cells #[.bool false,.slice none 0 0] 125)=w3 at *;have e1:=n1.c0;have e2:=n1.c1;go_enter Tryz.func183,Tryz.ntmps183
 go_wp2_with (go_at_call 185;(with_reducible refine (PA.out _ ho3).mono ?_);rintro e w5 ⟨vc,rfl,hoc,hbc⟩;obtain ⟨ac,wX,rfl,hmc,xV⟩:=aF.view hoc;have r5:=n3.keep hbc;have c0:=r5.c0;have c1:=r5.c1;have g0:=r5.f0;have g1:=r5.f1;clear xV hmc)
 have hr:=cF (w:=w) (w.heap.size+1) _ (.bool s) (by omega) n3.size hoc (d_ Bn hbc);generalize (Wh.a_ z.natAbs).length=yE at *;exact bodyPost_ret (v:=.agg #[.bool s,.slice ac yE wX]) (by simp [results,Tryz.results183,go_sem, *]) rfl (⟨_,rfl,hr.1,hr.2⟩)
theorem jx (x z:Int) (vx vz:Value) (w:World) (bx bz:Nat) (hox:ak w bx vx x) (xZ:ak w bz vz z) (hl1:(Wh.a_ x.natAbs).length≤9000) (hl2:(Wh.a_ z.natAbs).length≤9000) (hb1:Wh.bl x.natAbs≤1000000) (hb2:Wh.bl z.natAbs≤1000000) :
  Calls Tryz.prog 107 #[.agg #[.bool (decide (x<0)),vx,.bool (decide (z<0)),vz]] w fun e w'=>e=.returned (.int .i64 (max (Wh.bl x.natAbs:Nat) (Wh.bl z.natAbs:Nat):Int))∧Below w.heap.size w w':=by
 obtain ⟨ax,cx,rfl,-,-⟩:=aF.view hox;obtain ⟨az,cz,rfl,-,-⟩:=aF.view xZ
 have P1:=fun W (h:aF W bx (.slice ax (Wh.a_ x.natAbs).length cx) (Wh.a_ x.natAbs))=>jX x (.slice ax (Wh.a_ x.natAbs).length cx) W bx h hl1 hb1
 have P2:=fun W (h:aF W bz (.slice az (Wh.a_ z.natAbs).length cz) (Wh.a_ z.natAbs))=>jX z (.slice az (Wh.a_ z.natAbs).length cz) W bz h hl2 hb2
 have PM:=fun W=>d9 (Wh.bl x.natAbs:Int) (Wh.bl z.natAbs:Int) W
 have Cu:Hid (∀ W,Below w.heap.size w W→aF W bx (.slice ax (Wh.a_ x.natAbs).length cx) (Wh.a_ x.natAbs)):=wH fun W h=>aF.below hox h
 have Di:Hid (∀ W,Below w.heap.size w W→aF W bz (.slice az (Wh.a_ z.natAbs).length cz) (Wh.a_ z.natAbs)):=wH fun W h=>aF.below xZ h
 clear hox xZ;generalize max (Wh.bl x.natAbs:Int) (Wh.bl z.natAbs:Int)=mx at *;generalize Wh.a_ z.natAbs=zs,Wh.a_ x.natAbs=xs,decide (z<0)=s2,decide (x<0)=s1,Wh.bl z.natAbs=k2,Wh.bl x.natAbs=k1 at *;generalize zs.length=lz,xs.length=lx at *;replace P1:=wH P1;replace P2:=wH P2;replace PM:=wH PM;have b1:=iF.new w (.bool s1) (.slice ax lx cx) (.bool s2) (.slice az lz cz) 127;have hB:=(wK w.heap.size w).alloc (wL _) (.cells #[.bool s1,.slice ax lx cx,.bool s2,.slice az lz cz] 127);generalize hw3:w.alloc (.cells #[.bool s1,.slice ax lx cx,.bool s2,.slice az lz cz] 127)=w3 at *;have e0:=b1.c0;have e1:=b1.c1;have e2:=b1.c2;have e3:=b1.c3;go_enter Tryz.func107,Tryz.ntmps107
 go_wp2
 go_region_held3 (fun W=>W.cell? ⟨w.heap.size,0,none⟩=some (.bool s1)∧W.cell? ⟨w.heap.size,1,none⟩=some (.slice ax lx cx)∧W.cell? ⟨w.heap.size,2,none⟩=some (.bool s2)∧W.cell? ⟨w.heap.size,3,none⟩=some (.slice az lz cz)) (first | (refine ⟨?_,?_,?_,?_⟩ <;> (first | (with_reducible exact aE (by assumption) (by assumption)) | (with_reducible exact Gr.bJ (by assumption)) | (with_reducible refine Gr.bV (by assumption) ?_;(intro wt;(try simp only [wI,aO,World.heap_drewN,aI] at wt);omega)) | (with_reducible refine Gr.dD (by assumption) ?_ ?_ <;> (intro wt;(try simp only [wI,aO,World.heap_drewN,aI] at wt);omega)) | exact aE (by assumption) (by assumption) | (with_reducible exact bI (by assumption) (by assumption) (by assumption)))) | (go_split_ands;(refine ⟨?_,?_,?_,?_⟩ <;> (first | (with_reducible exact aE (by assumption) (by assumption)) | (with_reducible exact Gr.bJ (by assumption)) | (with_reducible refine Gr.bV (by assumption) ?_;(intro wt;(try simp only [wI,aO,World.heap_drewN,aI] at wt);omega)) | (with_reducible refine Gr.dD (by assumption) ?_ ?_ <;> (intro wt;(try simp only [wI,aO,World.heap_drewN,aI] at wt);omega)) | exact aE (by assumption) (by assumption) | (with_reducible exact bI (by assumption) (by assumption) (by assumption))))) | go_keep) ((first
  | (go_at_call 134;first
   | ((with_reducible refine (P1.out _ (Cu.out _ hB.drew)).mono ?_);rintro e w4 ⟨rfl,hb4⟩;have Fm:=aE hb4 (af e0);have yW:=aE hb4 (af e1);have zR:=aE hb4 (af e2);have Af:=aE hb4 (af e3);have B4:=hB.drew.trans (hb4.mono hB.size))
   | ((with_reducible refine (P2.out _ (Di.out _ B4)).mono ?_);rintro e w5 ⟨rfl,hb5⟩;have y0_:=aE hb5 Fm;have Bg:=aE hb5 yW;have Cf:=aE hb5 zR;have EE:=aE hb5 Af;have B5:=d_ B4 hb5))
  | (go_at_call 119;(with_reducible refine (PM.out _).mono ?_);rintro e w6 ⟨rfl,rfl⟩)
  | fail "ARMS"))
 all_goals
  go_wp2;go_ret;exact ⟨rfl,B5⟩
theorem wB {w2:World} {sl:Value} {xs:List Int} (c base:Nat) (u v x y:Value) (h2:c<base) (hoc:aF w2 base sl xs) :
  aF ((((w2.setCell ⟨c,0,none⟩ u).setCell ⟨c,1,none⟩ v).setCell ⟨c,2,none⟩ x).setCell ⟨c,3,none⟩ y) base sl xs:=by
 refine World.ownsRow.kept hoc (Gr.set (Gr.set (cG w2 c u v) 2 x) 3 y) ?_
 cases hs:sl.ownBlock with
 | none=>exact Or.inl rfl
 | some g=>
 right
 intro e
 injection e with e
 have:=(aF.lt hoc g hs).1;omega
theorem oK (n d:Int) (w:World) (hn1:-1000000000000000000≤n) (hn2:n≤1000000000000000000) (hd1:-1000000000000000000≤d) (hd2:d≤1000000000000000000) :
  Calls Tryz.prog 113 #[.int .i64 n,.int .i64 d] w fun e w'=>∃ vx vz,e=.returned (.agg #[.bool (decide (n<0)),vx,.bool (decide (d<0)),vz])∧ak w' w.heap.size vx n∧ak w' w.heap.size vz d∧Below w.heap.size w w':=by
 have PN:=wH fun W=>jY n W hn1 hn2
 have PD:=wH fun W=>jY d W hd1 hd2
 have b0:=iF.new w (.bool false) (.slice none 0 0) (.bool false) (.slice none 0 0) 127;have hB:=(wK w.heap.size w).alloc (wL _) (.cells #[.bool false,.slice none 0 0,.bool false,.slice none 0 0] 127);generalize decide (d<0)=s2,decide (n<0)=s1 at *;generalize hw3:w.alloc (.cells #[.bool false,.slice none 0 0,.bool false,.slice none 0 0] 127)=w3 at *;go_enter Tryz.func113,Tryz.ntmps113
 go_wp2_with (go_at_call 135;first
  | ((with_reducible refine (PN.out _).mono ?_);rintro e w4 ⟨vx,rfl,hox,hbx⟩;obtain ⟨ax,En,rfl,hmx,hvx⟩:=aF.view hox;clear hmx hvx;replace hox:=wH hox;have b4:=b0.keep hbx;have B4:=d_ hB hbx)
  | ((with_reducible refine (PD.out _).mono ?_);rintro e w5 ⟨vz,rfl,xZ,hbz⟩;obtain ⟨az,Eo,rfl,hmz,hvz⟩:=aF.view xZ;clear hmz hvz;have b5:=b4.keep hbz;have B5:=d_ B4 hbz;have My:=aF.below hox.out hbz;have c0:=b5.c0;have c1:=b5.c1;have c2:=b5.c2;have c3:=b5.c3;have f0:=b5.f0;have f1:=b5.f1;have f2:=b5.f2;have f3:=b5.f3))
 have h3:=b0.size;have h4:=b4.size;have r1:=aF.base (wB w.heap.size _ (.bool s1) (.slice ax (Wh.a_ n.natAbs).length En) (.bool s2) (.slice az (Wh.a_ d.natAbs).length Eo) (by omega) My) (Nat.le_of_lt h3);have r2:=aF.base (wB w.heap.size _ (.bool s1) (.slice ax (Wh.a_ n.natAbs).length En) (.bool s2) (.slice az (Wh.a_ d.natAbs).length Eo) (by omega) xZ) (Nat.le_of_lt h4)
 have r3:Below w.heap.size w ((((w5.setCell ⟨w.heap.size,0,none⟩ (.bool s1)).setCell ⟨w.heap.size,1,none⟩ (.slice ax (Wh.a_ n.natAbs).length En)).setCell ⟨w.heap.size,2,none⟩ (.bool s2)).setCell ⟨w.heap.size,3,none⟩ (.slice az (Wh.a_ d.natAbs).length Eo)):=by
  refine wJ (wJ (wJ (wJ B5 ?_ _) ?_ _) ?_ _) ?_ _ <;> exact wL _
 generalize (Wh.a_ d.natAbs).length=ld,(Wh.a_ n.natAbs).length=ln at *;exact bodyPost_ret (v:=.agg #[.bool s1,.slice ax ln En,.bool s2,.slice az ld Eo]) (by simp [results,Tryz.results113,go_sem, *]) rfl (⟨_,_,rfl,r1,r2,r3⟩)
theorem kG (a b:Int) (w:World) (h:M.bK a b=true) :
  Calls Tryz.prog 129 #[.agg #[.int .i64 a,.int .i64 b]] w fun e w'=>e=.returned (.int .i64 (M.ae a b))∧Below w.heap.size w w':=by
 obtain ⟨h1,h1',h2,h2'⟩:=M.an h;have b1:=M.aL (x:=4*a) (y:=a) (m:=4000) (n:=1000) (by omega) (by omega) (by omega) (by omega);have b2:=M.aL (x:=4*a*a) (y:=a) (m:=4000000) (n:=1000) (by omega) (by omega) (by omega) (by omega);have b3:=M.aL (x:=27*b) (y:=b) (m:=270000) (n:=10000) (by omega) (by omega) (by omega) (by omega);go_enter Tryz.func129,Tryz.ntmps129
 go_wp2;go_ret;exact ⟨rfl,((wK w.heap.size w).alloc (wL _) _)⟩
theorem dy {a b:Int} (h:M.bK a b=true):(M.ae a b).natAbs≤6700000000:=by
 obtain ⟨h1,h1',h2,h2'⟩:=M.an h;have b1:=M.aL (x:=4*a) (y:=a) (m:=4000) (n:=1000) (by omega) (by omega) (by omega) (by omega);have b2:=M.aL (x:=4*a*a) (y:=a) (m:=4000000) (n:=1000) (by omega) (by omega) (by omega) (by omega);have b3:=M.aL (x:=27*b) (y:=b) (m:=270000) (n:=10000) (by omega) (by omega) (by omega) (by omega);unfold M.ae;omega
theorem et {a b:Int} (h:M.good a b=true):M.ae a b≠0:=by
 unfold M.good at h;simp only [Bool.and_eq_true,bne_iff_ne] at h;exact h.2
theorem iy (a b t u:Int) (vt vu:Value) (w:World) (bt bu:Nat) (hg:M.good a b=true) (hot:ak w bt vt t) (hou:ak w bu vu u) (hl1:(Wh.a_ t.natAbs).length≤9000) (hl2:(Wh.a_ u.natAbs).length≤9000) :
  Calls Tryz.prog 189 #[.agg #[.int .i64 a,.int .i64 b],.agg #[.bool (decide (t<0)),vt],.agg #[.bool (decide (u<0)),vu]] w fun e w'=>e=.returned (.int .i64 (M.gcd (M.gcd (4*((M.ae a b).natAbs:Int)) (t % (4*((M.ae a b).natAbs:Int)))) (u % (4*((M.ae a b).natAbs:Int)))))∧Below w.heap.size w w':=by
 obtain ⟨at_,ct,rfl,-,-⟩:=aF.view hot;obtain ⟨au,cu,rfl,-,-⟩:=aF.view hou;have hin:=M.ag hg;have hdb:=dy hin;have hdn:=et hg
 have hdp:1≤(M.ae a b).natAbs:=by omega
 have PD:=fun W=>kG a b W hin
 have PA:=fun W=>dE (M.ae a b) W (by omega) (by omega)
 clear hin hg hdn;generalize M.ae a b=D at *;generalize hd:D.natAbs=d at *
 have P1:=fun W (h:aF W bt (.slice at_ (Wh.a_ t.natAbs).length ct) (Wh.a_ t.natAbs))=>dw t (4*(d:Int)) (.slice at_ (Wh.a_ t.natAbs).length ct) W bt h hl1 (by omega) (by omega)
 have P2:=fun W (h:aF W bu (.slice au (Wh.a_ u.natAbs).length cu) (Wh.a_ u.natAbs))=>dw u (4*(d:Int)) (.slice au (Wh.a_ u.natAbs).length cu) W bu h hl2 (by omega) (by omega)
 have r1:=Int.emod_nonneg t (b:=4*(d:Int)) (by omega);have r2:=Int.emod_lt_of_pos t (b:=4*(d:Int)) (by omega);have r3:=Int.emod_nonneg u (b:=4*(d:Int)) (by omega);have r4:=Int.emod_lt_of_pos u (b:=4*(d:Int)) (by omega);generalize t % (4*(d:Int))=x at *;generalize u % (4*(d:Int))=y at *
 have PG:=fun (m n:Int) W (h1:0≤m) (h2:m≤9000000000000000000) (h3:0≤n) (h4:n≤9000000000000000000)=>dH m n W h1 h2 h3 h4
 have g0:0≤M.gcd (4*(d:Int)) x:=by unfold M.gcd;omega
 have g1:M.gcd (4*(d:Int)) x≤26800000000:=by
  have en:(4*(d:Int)).natAbs=4*d:=by omega
  have:=Nat.gcd_le_left x.natAbs (show 0<4*d by omega);unfold M.gcd Int.gcd;rw [en];omega
 have hOT:Hid (∀ W,Below w.heap.size w W→aF W bt (.slice at_ (Wh.a_ t.natAbs).length ct) (Wh.a_ t.natAbs)):=wH fun W h=>aF.below hot h
 have hOU:Hid (∀ W,Below w.heap.size w W→aF W bu (.slice au (Wh.a_ u.natAbs).length cu) (Wh.a_ u.natAbs)):=wH fun W h=>aF.below hou h
 clear hot hou hl1 hl2;generalize decide (u<0)=s2,decide (t<0)=s1 at *;generalize decide (t / (4*(d:Int))<0)=s3 at *;generalize decide (u / (4*(d:Int))<0)=s4 at *;generalize t / (4*(d:Int))=qt at *;generalize u / (4*(d:Int))=qu at *;generalize Wh.a_ u.natAbs=us,Wh.a_ t.natAbs=ts at *;generalize us.length=lu,ts.length=lt at *;replace PD:=wH PD;replace PA:=wH PA;replace P1:=wH P1;replace P2:=wH P2;replace PG:=wH PG;have b1:=((ar.new w (.int .i64 a) (.int .i64 b) 25).alloc (.cells #[.bool s1,.slice at_ lt ct] 125)).alloc (.cells #[.bool s2,.slice au lu cu] 125);have b2:=(ar.new2 w (.cells #[.int .i64 a,.int .i64 b] 25) (.bool s1) (.slice at_ lt ct) 125).alloc (.cells #[.bool s2,.slice au lu cu] 125);have b3:=ar.new (((w.alloc (.cells #[.int .i64 a,.int .i64 b] 25)).alloc (.cells #[.bool s1,.slice at_ lt ct] 125))) (.bool s2) (.slice au lu cu) 125;rw [cr] at b3;have hB:=(((wK w.heap.size w).alloc (wL _) (.cells #[.int .i64 a,.int .i64 b] 25)).alloc (by rw [wI];omega) (.cells #[.bool s1,.slice at_ lt ct] 125)).alloc (by rw [cr];omega) (.cells #[.bool s2,.slice au lu cu] 125)
 have hz:(((w.alloc (.cells #[.int .i64 a,.int .i64 b] 25)).alloc (.cells #[.bool s1,.slice at_ lt ct] 125)).alloc (.cells #[.bool s2,.slice au lu cu] 125)).heap.size=w.heap.size+3:=by rw [wI,cr]
 generalize hw3:((w.alloc (.cells #[.int .i64 a,.int .i64 b] 25)).alloc (.cells #[.bool s1,.slice at_ lt ct] 125)).alloc (.cells #[.bool s2,.slice au lu cu] 125)=w3 at *;have e0:=b1.c0;have e1:=b1.c1;go_enter Tryz.func189,Tryz.ntmps189
 go_wp2_with (first
  | (go_at_call 129;(with_reducible refine (PD.out _).mono ?_);rintro e w4 ⟨rfl,hb4⟩;have x2:=b2.keep hb4;have x3:=b3.keep hb4;have B4:=d_ hB hb4;have f1:=x2.c0;have f2:=x2.c1)
  | (go_at_call 131;(with_reducible refine (PA.out _).mono ?_);rintro e w5 ⟨rfl,rfl⟩)
  | (go_at_call 169;first
   | ((with_reducible refine (P1.out _ (hOT.out _ B4)).mono ?_);rintro e w6 ⟨vq,rfl,hoq,hbq⟩;obtain ⟨aq,cq,rfl,hmq,hvq⟩:=aF.view hoq;clear hmq hvq hoq;(generalize (Wh.a_ qt.natAbs).length=lq at *);have x6:=x3.keep hbq;have B6:=d_ B4 hbq;have x7:=x6.alloc (.cells #[.bool s3,.slice aq lq cq] 125);have B7:=B6.alloc B6.size (.cells #[.bool s3,.slice aq lq cq] 125);(have f3:(w6.alloc (.cells #[.bool s3,.slice aq lq cq] 125)).cell? ⟨w.heap.size+1+1,0,none⟩=some (.bool s2):=x7.c0);(have f4:(w6.alloc (.cells #[.bool s3,.slice aq lq cq] 125)).cell? ⟨w.heap.size+1+1,1,none⟩=some (.slice au lu cu):=x7.c1))
   | ((with_reducible refine (P2.out _ (hOU.out _ B7)).mono ?_);rintro e w8 ⟨vp,rfl,hop,hbp⟩;obtain ⟨ap,cp,rfl,hmp,hvp⟩:=aF.view hop;clear hmp hvp hop;(generalize (Wh.a_ qu.natAbs).length=lp at *);have B8:=d_ B7 hbp;have B9:=B8.alloc B8.size (.cells #[.bool s4,.slice ap lp cp] 125)))
  | (go_at_call 130;first
   | ((with_reducible refine (PG.out (4*(d:Int)) x _ (by omega) (by omega) (by omega) (by omega)).mono ?_);rintro e w9 ⟨rfl,rfl⟩)
   | ((with_reducible refine (PG.out (M.gcd (4*(d:Int)) x) y _ (by omega) (by omega) (by omega) (by omega)).mono ?_);rintro e w9 ⟨rfl,rfl⟩))
  | fail "ARMS")
 go_ret;exact ⟨rfl,B9⟩
theorem iF.alloc {w:World} {b:Nat} {u v x y:Value} (h:iF w b u v x y) (o:Obj):iF (w.alloc o) b u v x y:=h.keep ((wK w.heap.size w).alloc (wL _) o)
def qd (B:Nat) (W:World) (p u v:Value):Prop:=∃ g,p=.pointer (some ⟨g,0,none⟩)∧B≤g∧ar W g u v
theorem qd.keep {B:Nat} {W W':World} {p u v:Value} (h:qd B W p u v) (hb:Below W.heap.size W W'):qd B W' p u v:=by
 obtain ⟨g,e,hB,h⟩:=h;exact ⟨g,e,hB,h.keep hb⟩
end
end Go.Proofs.YtggekfbfechonaaGreat
