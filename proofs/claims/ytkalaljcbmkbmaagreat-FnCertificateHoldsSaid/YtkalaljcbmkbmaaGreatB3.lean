/-
  Joined texts: contracts and plain lemmas.
-/
import Derived.Test.YtkalaljcbmkbmaaGreatB1
import Derived.Test.YtkalaljcbmkbmaaGreatB2
import Derived.Test.YtkalaljcbmkbmaaGreatShB
import Derived.Lib.BitFns
set_option linter.unusedSimpArgs false
set_option linter.unusedVariables false
set_option maxRecDepth 100000
set_option maxHeartbeats 8000000
namespace Go.Proofs.YtkalaljcbmkbmaaGreat
section
open Go.RowKit
namespace Wh
theorem wF {a n:Int} (ha:¬ a<0):Dv false ((a.natAbs:Int) / n)=a / n/\(a.natAbs:Int) % n=a % n:=by
 rw [show (a.natAbs:Int)=a by omega];exact ⟨rfl,rfl⟩
theorem wD {a n:Int} (hn:0<n) (ha:a<0) (hr:(a.natAbs:Int) % n=0):Dv true ((a.natAbs:Int) / n)=a / n/\(a.natAbs:Int) % n=a % n:=by
 have h1:=Int.mul_ediv_add_emod (a.natAbs:Int) n;rw [hr] at h1 ⊢
 have h2:a=n*-((a.natAbs:Int) / n):=by
  rw [Int.mul_neg];omega
 constructor
 ·show -((a.natAbs:Int) / n)=a / n
  conv=>rhs;rw [h2]
  rw [Int.mul_ediv_cancel_left _ (by omega)]
 conv=>rhs;rw [h2]
 rw [Int.mul_emod_right]
theorem wE {a n:Int} (hn:0<n) (ha:a<0) (hr:¬ (a.natAbs:Int) % n=0):Dv true ((a.natAbs:Int) / n)+-1=a / n/\n - (a.natAbs:Int) % n=a % n:=by
 have h1:=Int.mul_ediv_add_emod (a.natAbs:Int) n;have h3:=Int.emod_nonneg (a.natAbs:Int) (show n≠0 by omega);have h4:=Int.emod_lt_of_pos (a.natAbs:Int) hn;generalize (a.natAbs:Int) / n=q at *;generalize (a.natAbs:Int) % n=r at *
 have h2:a=(n - r)+n*(-q+-1):=by
  rw [Int.mul_add,Int.mul_neg];omega
 constructor
 ·show -q+-1=a / n
  rw [h2,Int.add_mul_ediv_left _ _ (by omega),Int.ediv_eq_zero_of_lt (by omega) (by omega),Int.zero_add]
 rw [h2,Int.add_mul_emod_self_left,Int.emod_eq_of_lt (by omega) (by omega)]
theorem sV {a n:Int} (s:Bool) (hn:0<n):(a_ (Dv s ((a.natAbs:Int) / n)).natAbs).length<=(a_ a.natAbs).length:=by
 refine eM ?_;have h1:0<=(a.natAbs:Int) / n:=Int.ediv_nonneg (by omega) (by omega);have h2:(a.natAbs:Int) / n<=a.natAbs:=Int.ediv_le_self _ (by omega);rw [pA h1];omega
theorem ju:(a_ (-1:Int).natAbs).length<=1:=dL (k:=1) (by decide)
end Wh
theorem iS (a n:Int) (va:Value) (w:World) (ba:Nat) (hoa:ae w ba va a) (hl:(Wh.a_ a.natAbs).length<=9000) (hn1:1<=n) (hn2:n<=1000000000000) :
  Calls Tryz.prog 181 #[.agg #[decide (a<0),va],n] w fun e w'=>∃ sl,e=.returned (.tuple #[.agg #[decide (a / n<0),sl],(a % n:Int)])/\ae w' w.heap.size sl (a / n)/\Below w.heap.size w w':=by
 obtain ⟨aa,j_,rfl,hma,hva⟩:=aF.seen hoa;have hva:=DB hva;have hla:=DB (Wh.an a.natAbs);have hvl:=DB (Wh.bE a.natAbs)
 have hq0:=fun s=>Wh.sV (a:=a) (n:=n) s (by omega)
 have PT:=fun s W v base ho=>gH (Wh.Dv s ((a.natAbs:Int) / n)) ((a.natAbs:Int) / n) (Wh.a_ a.natAbs).length s v W base ho (by omega) rfl
 have d0:=fun h=>Wh.wF (a:=a) (n:=n) h
 have d1:=fun h h'=>Wh.wD (a:=a) (n:=n) (by omega) h h'
 have d2:=fun h h'=>Wh.wE (a:=a) (n:=n) (by omega) h h'
 have d0:=DB d0;have d1:=DB d1;have d2:=DB d2;clear hma hoa
 obtain ⟨s1,hs1⟩:∃ s,decide (a<0)=s:=⟨_,rfl⟩
 rw [hs1];have hs1:=DB hs1;generalize a % n=zr,a / n=z at *;generalize hab:(a.natAbs:Int)=A at *;have D4:Hid (Wh.val (Wh.a_ a.natAbs)=A):=hvl;clear hvl hab;generalize Wh.a_ a.natAbs=xs at *
 obtain ⟨s,hsd⟩:∃ s,Hid (decide (z<0)=s):=⟨_,DB rfl⟩
 rw [hsd.out];have b1:=(ay.new w (.bool s1) (.slice aa xs.length j_) 116).alloc (.cells #[false,.slice none 0 0] 116);have b2:=ay.new2 w (.cells #[s1,.slice aa xs.length j_] 116) (.bool false) (.slice none 0 0) 116;have hB:=((DE w.heap.size w).alloc (DF _) (.cells #[s1,.slice aa xs.length j_] 116)).alloc (by rw [DC];omega) (.cells #[false,.slice none 0 0] 116);generalize hw3:(w.alloc (.cells #[s1,.slice aa xs.length j_] 116)).alloc (.cells #[false,.slice none 0 0] 116)=w3 at *;obtain ⟨w4,hrun,hown1,hg1⟩:=me w3 xs.length (by omega);have hb4:Below w3.heap.size w3 w4:=ck hg1 (DF _) (fun k hk=>by cases hk);have hB3:=DB hB;have e2:=b1.c1;have F3:=DB b1;have F4:=DB b2;clear hg1 b2 hB;go_enter Tryz.func181,Tryz.ntmps181
 go_wp2;clear e2 b1
 go_loopw [7,8] (fun vr vi wr=>∃ (k:Nat) (q:List Int) (r:Int),k<=xs.length/\vi=.int .i64 ((k:Int) - 1)/\vr=.int .i64 r/\aF wr w3.heap.size (.slice (some ⟨w3.heap.size,0,none⟩) xs.length xs.length) q/\Wh.kX xs q n k r/\Below w3.heap.size w3 wr) (fun _ vi _=>(intOf vi+1).toNat)
 case atStart=>exact ⟨xs.length,List.replicate xs.length 0,0,DF _,rfl,rfl,hown1,Wh.kX.start (by omega) List.length_replicate,hb4⟩
 case round=>
 clear hown1 hb4;obtain ⟨k,q,r,hk,rfl,rfl,hown,hdi,hbr⟩:=hrel;have c1:=F3.out.dZ hbr F3.out.size;have c2:=F4.out.dZ hbr F4.out.size;have hwr:Below w.heap.size w wr:=hB3.out.trans (hbr.mono hB3.out.size)
 cases k with
 | zero=>
  have hf:=hdi.fin;rw [D4.out] at hf;obtain ⟨hq1,rfl,hq3⟩:=hf;have hov:Hid (kc wr w3.heap.size (.slice (some ⟨w3.heap.size,0,none⟩) xs.length xs.length) (A / n) xs.length):=DB ⟨q,hown,hq3,hq1,by rw [hdi.len];exact DF _⟩;have hd0:=c1.c0;clear hdi hown hq1 hq3;cases s1
  ·have hna:¬ a<0:=by have:=hs1.out;simpa using this
   obtain ⟨hz1,hz2⟩:=d0.out (by omega);have PT:=PT false;rw [hz1] at PT;rw [hsd.out] at PT;have PT:=DB PT;rw [hz2]
   go_wp2_with (go_at_call 127;(with_reducible refine (PT.out _ _ _ hov.out).mono ?_);rintro e w5 ⟨vc,rfl,hoc,hbc⟩;obtain ⟨ac,x_,rfl,hmc,Dd⟩:=aF.view hoc;have r5:=c2.keep hbc;have b5:=c1.keep hbc;have p0:=r5.c0;have p1:=r5.c1;have g0:=r5.f0;have g1:=r5.f1;have z5:=r5.size;have y5:=b5.size;have x0:=b5.c0;clear Dd hmc)
   have hr0:=cL (w:=w) (w2:=w5) (w.heap.size+1) _ (.bool s) (by omega) c2.size hoc (d_ hwr hbc);have hr1:=aF.alloc hr0.1 (.cells #[s,.slice ac (Wh.a_ z.natAbs).length x_] 116);have hr2:=hr0.2.alloc hr0.2.size (.cells #[s,.slice ac (Wh.a_ z.natAbs).length x_] 116);generalize (Wh.a_ z.natAbs).length=D2 at *;exact bodyPost_ret (v:=.tuple #[.agg #[s,.slice ac D2 x_],zr]) (by simp [results,Tryz.results181,go_sem, *]) rfl (⟨_,rfl,hr1,hr2⟩)
  have hna:a<0:=by have:=hs1.out;simpa using this
  by_cases hrz:A % n=0
  ·skip
   obtain ⟨hz1,hz2⟩:=d1.out hna hrz;have PT:=PT true;rw [hz1] at PT;rw [hsd.out] at PT;have PT:=DB PT;rw [hz2] at hrz ⊢
   go_wp2_with (go_at_call 127;(with_reducible refine (PT.out _ _ _ hov.out).mono ?_);rintro e w5 ⟨vc,rfl,hoc,hbc⟩;obtain ⟨ac,x_,rfl,hmc,Dd⟩:=aF.view hoc;have r5:=c2.keep hbc;have b5:=c1.keep hbc;have p0:=r5.c0;have p1:=r5.c1;have g0:=r5.f0;have g1:=r5.f1;have z5:=r5.size;have y5:=b5.size;have x0:=b5.c0;clear Dd hmc)
   have hr0:=cL (w:=w) (w2:=w5) (w.heap.size+1) _ (.bool s) (by omega) c2.size hoc (d_ hwr hbc);have hr1:=aF.alloc hr0.1 (.cells #[s,.slice ac (Wh.a_ z.natAbs).length x_] 116);have hr2:=hr0.2.alloc hr0.2.size (.cells #[s,.slice ac (Wh.a_ z.natAbs).length x_] 116);generalize (Wh.a_ z.natAbs).length=D2 at *;exact bodyPost_ret (v:=.tuple #[.agg #[s,.slice ac D2 x_],zr]) (by simp [results,Tryz.results181,go_sem, *]) rfl (⟨_,rfl,hr1,hr2⟩)
  obtain ⟨hz1,hz2⟩:=d2.out hna hrz;have PT:=PT true;have hq1:=hq0 true
  have KE:0<A % n:=by have:=Int.emod_nonneg A (show n≠0 by omega);omega
  have hrn:A % n<n:=Int.emod_lt_of_pos _ (by omega);generalize A % n=rr,Wh.Dv true (A / n)=y0 at *
  have PW:=fun W=>bX (-1) W (by omega) (by omega)
  have PA:=fun va vb W ba bb (h1:aF W ba va (Wh.a_ y0.natAbs)) (h2:aF W bb vb (Wh.a_ (-1:Int).natAbs))=>gR y0 (-1) va vb W ba bb h1 h2 (by omega) (by have:=Wh.ju;omega)
  rw [decide_eq_true (show (-1:Int)<0 by decide)] at PW PA;rw [hz1,hsd.out] at PA;have QQ:=KE
  obtain ⟨s0,hs0⟩:∃ s0,decide (y0<0)=s0:=⟨_,rfl⟩
  rw [hs0] at PT PA;have PT:=DB PT;have PW:=DB PW;have PA:=DB PA;replace hz2:=DB hz2;clear hz1 hs0 hq0 hq1 d0 d1 d2 hrz
  go_wp2_with (go_at_call 127;(with_reducible refine (PT.out _ _ _ hov.out).mono ?_);rintro e w5 ⟨vc,rfl,hoc,hbc⟩;obtain ⟨ac,x_,rfl,hmc,Dd⟩:=aF.view hoc;have r5:=c2.keep hbc;have b5:=c1.keep hbc;have p0:=r5.c0;have p1:=r5.c1;have g0:=r5.f0;have g1:=r5.f1;have z5:=r5.size;have y5:=b5.size;have x0:=b5.c0;clear Dd hmc)
  have bt:=ay.new w5 (.bool s0) (.slice ac (Wh.a_ y0.natAbs).length x_) 116;have r6:=r5.alloc (.cells #[s0,.slice ac (Wh.a_ y0.natAbs).length x_] 116);have JQ:=aF.alloc hoc (.cells #[s0,.slice ac (Wh.a_ y0.natAbs).length x_] 116);have B6:=(d_ hwr hbc).alloc (by have:=(d_ hwr hbc).size;omega) (.cells #[s0,.slice ac (Wh.a_ y0.natAbs).length x_] 116);have u0:=bt.c0;have u1:=bt.c1;have zz:w5.heap.size<(w5.alloc (.cells #[s0,.slice ac (Wh.a_ y0.natAbs).length x_] 116)).heap.size:=bt.size;generalize (Wh.a_ y0.natAbs).length=l0,w5.alloc (.cells #[s0,.slice ac (Wh.a_ y0.natAbs).length x_] 116)=w6 at *;clear p0 p1 g0 g1 x0
  go_region_held3 (fun W=>W.cell? ⟨w5.heap.size,0,none⟩=some (.bool s0)/\W.cell? ⟨w5.heap.size,1,none⟩=some (.slice ac l0 x_)) (first | (refine ⟨?_,?_⟩ <;> (first | (with_reducible exact aE (by assumption) (by assumption)) | (with_reducible exact Gr.bJ (by assumption)) | (with_reducible refine Gr.bp (by assumption) ?_;(intro DI;(try simp only [DC,aP,World.heap_drewN,aK] at DI);omega)) | (with_reducible refine Gr.eN (by assumption) ?_ ?_ <;> (intro DI;(try simp only [DC,aP,World.heap_drewN,aK] at DI);omega)) | exact aE (by assumption) (by assumption) | (with_reducible exact bI (by assumption) (by assumption) (by assumption)))) | (go_split_ands;(refine ⟨?_,?_⟩ <;> (first | (with_reducible exact aE (by assumption) (by assumption)) | (with_reducible exact Gr.bJ (by assumption)) | (with_reducible refine Gr.bp (by assumption) ?_;(intro DI;(try simp only [DC,aP,World.heap_drewN,aK] at DI);omega)) | (with_reducible refine Gr.eN (by assumption) ?_ ?_ <;> (intro DI;(try simp only [DC,aP,World.heap_drewN,aK] at DI);omega)) | exact aE (by assumption) (by assumption) | (with_reducible exact bI (by assumption) (by assumption) (by assumption))))) | go_keep) ((first
   | (go_at_call 88;(with_reducible refine (PW.out _).mono ?_);rintro e w7 ⟨v7,rfl,Fk,DL⟩;(have JP:aF _ _ _ (Wh.a_ (-1:Int).natAbs):=Fk);have Ii:=aE DL (ai u0);have EX:=aE DL (ai u1);have r7:=r6.drew.keep DL;have B7:=B6.drew.trans (DL.mono B6.size);have JR:=aF.below (aF.below JQ (DE _ _).drew) DL;(have z7:w6.heap.size<=w7.heap.size:=DL.size))
   | (go_at_call 89;(with_reducible refine (PA.out _ _ _ _ _ JR JP).mono ?_);rintro e w8 ⟨v8,rfl,Em,DN⟩;obtain ⟨a8,I5,rfl,LA,Qs⟩:=aF.view Em;have y0_:=aE DN Ii;have Gs:=aE DN EX;have r8:=r7.keep DN;have p0:=r8.c0;have p1:=r8.c1;have g0:=r8.f0;have g1:=r8.f1;have B8:=d_ B7 DN;clear Qs LA)
   | fail "ARMS"))
  all_goals
   have hr:=cL (w:=w) (w.heap.size+1) _ (.bool s) (by omega) r7.size Em B8;generalize (Wh.a_ z.natAbs).length=D2 at *;go_wp2
   have hwz:IntKind.i64.wrap (n - rr)=n - rr:=by
    rw [IntKind.wrap_i64];omega
   exact bodyPost_ret (v:=.tuple #[.agg #[s,.slice a8 D2 I5],(n - rr:Int)]) (by simp [results,Tryz.results181,go_sem, *]) rfl (⟨_,by rw [hz2.out],hr.1,hr.2⟩)
 | succ j=>
 obtain ⟨ga,x,ea,hga,hxa,hca⟩:=hva.out j (by omega);subst ea;have hca:=aE hwr hca;have hr0:=hdi.r0;have hlx:=hla.out x (List.mem_of_getElem? hxa.out);unfold Wh.lim at hlx;have hS:=hdi.step hla.out hxa.out hn2;have hy:=hS.1;have t1:Int.tdiv (r*10000+x) n=(r*10000+x) / n:=Int.tdiv_eq_ediv_of_nonneg hy.1;have t2:Int.tmod (r*10000+x) n=(r*10000+x) % n:=Int.tmod_eq_emod_of_nonneg hy.1;have hpl:=hdi.len;have hqk:q[j]?=some q[j]:=List.getElem?_eq_getElem (by omega);have hc0:=aF.cellAt hpl.symm hown hqk;have hf0:wr.frozen? ⟨w3.heap.size,j,none⟩=false:=gA hpl hown j;have hO:=DB (aF.set (j:=j) hpl.symm hown ((r*10000+x) / n) rfl);have hS2:=DB hS.2;have Dk:=DB hbr;have f2:=c1.c1;have LO:w3.heap.size<wr.heap.size:=World.block_lt_of_cell? wr _ hc0
 have hdb:-1000000000000<=(r*10000+x) / n/\(r*10000+x) / n<=10000000000000000:=by
  have h1:=Int.ediv_nonneg hy.1 (show 0<=n by omega);have h2:=Int.ediv_le_self n hy.1;omega
 have hmb:0<=(r*10000+x) % n/\(r*10000+x) % n<n:=⟨Int.emod_nonneg _ (by omega),Int.emod_lt_of_pos _ (by omega)⟩
 generalize (r*10000+x) % n=yr,(r*10000+x) / n=yq,q[j]=qj at *;clear hS hdi hpl hqk hown c1 c2 hxa;go_wp2
 go_roundw
 case rel=>exact ⟨j,_,_,by omega,by go_num,by go_num,hO.out.1,hS2.out,Dk.out.setCell (DF _) _⟩
 case measure=>first | (simp [intOf];done) | (simp [intOf];omega)
theorem gS (l:List Int) (v:Value) (i:Nat) (w:World) (base:Nat) (hown:aF w base v l) :
  Calls Tryz.prog 197 #[v,i] w fun e w'=>e=.returned (.int .i64 (Wh.nth l i))/\w=w':=by
 obtain ⟨a,cap,rfl,hm,hv⟩:=hown.seen
 by_cases h:i<l.length
 ·obtain ⟨g,x,rfl,hg,hx,hcell⟩:=hv i h
  have hn:=DB (Wh.cr hx.out);clear hv hm hown hx;go_enter Tryz.func197,Tryz.ntmps197
  go_wp2;go_ret;exact ⟨by rw [hn.out] <;> rfl,rfl⟩
 have hn:=DB (Wh.co (l:=l) (i:=i) (by omega));clear hv hm hown;go_enter Tryz.func197,Tryz.ntmps197
 go_wp2;go_ret;exact ⟨by rw [hn.out] <;> rfl,rfl⟩
theorem tg (xs ys:List Int) (va vb:Value) (w:World) (ba bb:Nat) (hoa:aF w ba va xs) (Dp:aF w bb vb ys) (hla:Wh.bD xs) (hlb:Wh.bD ys) (hl1:xs.length<=100000) (hl2:ys.length<=100000) :
  Calls Tryz.prog 201 #[va,vb] w fun e w'=>e=.returned (.int .i64 (Wh.Du (Wh.val xs) (Wh.val ys)))/\Below w.heap.size w w':=by
 have PA:=fun (i:Nat) W h=>gS xs va i W ba h
 have PB:=fun (i:Nat) W h=>gS ys vb i W bb h
 have PM:=fun W=>d6 (xs.length:Int) (ys.length:Int) W
 obtain ⟨L,hL⟩:∃ L:Nat,max (xs.length:Int) (ys.length:Int)=L:=⟨max xs.length ys.length,by omega⟩
 have hx1:xs.length<=L:=by omega
 have hy1:ys.length<=L:=by omega
 have hLb:L<=100000:=by omega
 rw [hL] at PM;have PM:=DB PM;have PA:=DB PA;have PB:=DB PB;obtain ⟨aa,j_,rfl,hma,hva⟩:=hoa.view;obtain ⟨ab,DM,rfl,hmb,hvb⟩:=Dp.view;have hoa:=DB hoa;have Dp:=DB Dp;have hla:=DB hla;have hlb:=DB hlb;clear hma hmb hva hvb hL;go_enter Tryz.func201,Tryz.ntmps201
 go_wp2_with (go_at_call 94;(with_reducible refine (PM.out _).mono ?_);rintro e w1 ⟨rfl,rfl⟩)
 go_loopw [5,6,7,24,28] (fun vi _ _ _ _ wr=>∃ k:Nat,k<=L/\vi=.int .i64 ((k:Int) - 1)/\(∀ q:Nat,k<=q->q<L->Wh.nth xs q=Wh.nth ys q)/\Below w.heap.size w wr) (fun vi _ _ _ _ _=>(intOf vi+1).toNat)
 case atStart=>exact ⟨L,DF _,rfl,fun q h1 h2=>by omega,DE _ _⟩
 case round=>
 obtain ⟨k,hk,rfl,heq,hbr⟩:=hrel;have heq:=DB heq
 cases k with
 | zero=>
  have hz:Hid (Wh.Du (Wh.val xs) (Wh.val ys)=0):=DB (Wh.cmp_eq hx1 hy1 fun q h=>heq.out q (Nat.zero_le _) h);go_wp2;go_ret;exact ⟨by rw [hz.out] <;> rfl,hbr⟩
 | succ j=>
 have QA:=PA.out j;have QB:=PB.out j;have hnx:=DB (rfl:Wh.nth xs j=Wh.nth xs j)
 obtain ⟨x,hx⟩:∃ x,Hid (Wh.nth xs j=x):=⟨_,DB rfl⟩
 obtain ⟨y,hy⟩:∃ y,Hid (Wh.nth ys j=y):=⟨_,DB rfl⟩
 rw [hx.out] at QA;rw [hy.out] at QB;have QA:=DB QA;have QB:=DB QB;clear hnx
 by_cases hxy:x=y
 ·subst hxy
  have heq2:Hid (∀ q:Nat,j<=q->q<L->Wh.nth xs q=Wh.nth ys q):=DB fun q h1 h2=>by
   by_cases hq:q=j
   ·subst hq;rw [hx.out,hy.out]
   exact heq.out q (by omega) h2
  go_wp2_with (go_at_call 197;first
   | ((with_reducible refine (QA.out _ (hoa.out.below hbr)).mono ?_);rintro e w5 ⟨rfl,rfl⟩)
   | ((with_reducible refine (QB.out _ (Dp.out.below hbr)).mono ?_);rintro e w6 ⟨rfl,rfl⟩))
  go_roundw
  case rel=>exact ⟨j,by omega,by go_num,heq2.out,hbr⟩
  case measure=>first | (simp [intOf];done) | (simp [intOf];omega)
 by_cases hlt:x<y
 ·have hz:Hid (Wh.Du (Wh.val xs) (Wh.val ys)=-1):=DB (Wh.vV hla.out hlb.out hx1 hy1 (i:=j) (by omega) (fun q h1 h2=>heq.out q (by omega) h2) (by rw [hx.out,hy.out];exact hlt))
  go_wp2_with (go_at_call 197;first
   | ((with_reducible refine (QA.out _ (hoa.out.below hbr)).mono ?_);rintro e w5 ⟨rfl,rfl⟩)
   | ((with_reducible refine (QB.out _ (Dp.out.below hbr)).mono ?_);rintro e w6 ⟨rfl,rfl⟩))
  go_ret;exact ⟨by rw [hz.out] <;> rfl,hbr⟩
 have hz:Hid (Wh.Du (Wh.val xs) (Wh.val ys)=1):=DB (Wh.vU hla.out hlb.out hx1 hy1 (i:=j) (by omega) (fun q h1 h2=>heq.out q (by omega) h2) (by rw [hx.out,hy.out];omega))
 have hlt2:y<x:=by omega
 go_wp2_with (go_at_call 197;first
  | ((with_reducible refine (QA.out _ (hoa.out.below hbr)).mono ?_);rintro e w5 ⟨rfl,rfl⟩)
  | ((with_reducible refine (QB.out _ (Dp.out.below hbr)).mono ?_);rintro e w6 ⟨rfl,rfl⟩))
 go_ret;exact ⟨by rw [hz.out] <;> rfl,hbr⟩
theorem jp (xs ys:List Int) (s:Int) (va vb:Value) (w:World) (ba bb:Nat) (hs:s=1∨s=-1) (hoa:aF w ba va xs) (Dp:aF w bb vb ys) (hla:Wh.bD xs) (hlb:Wh.bD ys) (hnn:0<=Wh.val xs+s*Wh.val ys) (hl1:xs.length<=100000) (hl2:ys.length<=100000) :
  Calls Tryz.prog 200 #[va,vb,s] w fun e w'=>∃ v,e=.returned v/\kc w' w.heap.size v (Wh.val xs+s*Wh.val ys) (xs.length+ys.length+1)/\Below w.heap.size w w':=by
 have PA:=fun (i:Nat) W h=>gS xs va i W ba h
 have PB:=fun (i:Nat) W h=>gS ys vb i W bb h
 have PA:=DB PA;have PB:=DB PB;obtain ⟨aa,j_,rfl,hma,hva⟩:=hoa.view;obtain ⟨ab,DM,rfl,hmb,hvb⟩:=Dp.view;have hoa:=DB hoa;have Dp:=DB Dp;have hla:=DB hla;have hlb:=DB hlb;have hnn:=DB hnn;clear hma hmb hva hvb
 obtain ⟨L,hL1,hL2,hL3⟩:∃ L:Nat,xs.length<=L/\ys.length<=L/\L<=xs.length+ys.length/\(xs.length=L∨ys.length=L):=⟨max xs.length ys.length,by omega,by omega,by omega⟩
 go_enter Tryz.func200,Tryz.ntmps200
 go_wp2
 go_loopw [7,8,9,10,38,43] (fun vo vc vi _ _ _ wr=>∃ (i:Nat) (o:List Int) (c:Int),i<=L+1/\(L<i->c=0)/\vi=.int .i64 i/\vc=.int .i64 c/\aF wr w.heap.size vo o/\Wh.ft xs ys s i o c/\Below w.heap.size w wr) (fun _ _ vi _ _ _ _=>L+2 - (intOf vi).toNat)
 case atStart=>exact ⟨0,[],0,by omega,fun h=>by omega,rfl,rfl,aF.nil _ _,Wh.ft.start xs ys s,DE _ _⟩
 case round=>
 obtain ⟨i,o,c,hi,hic,rfl,rfl,hown,hai,hbr⟩:=hrel;have hrg:=hai.rng hs hla.out hlb.out;have hol:=hai.len;have Fl:=hbr.size;have QA:=PA.out i;have QB:=PB.out i;have IX:=Wh.kM hlb.out i;unfold Wh.lim at IX
 have hstep:=DB fun x c' h1 h2 h3 h4=>hai.step (x:=x) (c':=c') h1 h2 h3 h4
 have hsx:-9999<=s*Wh.nth ys i/\s*Wh.nth ys i<=9999:=by rcases hs with rfl | rfl <;> omega
 have hcar:=DB fun h1 h2 h3=>hai.carry hs h1 h2 hnn.out h3
 have hfin:Hid (xs.length<=i->ys.length<=i->c=0->Wh.val xs+s*Wh.val ys=Wh.val o):=DB fun h1 h2 h3=>(hai.all h1 h2).symm.trans (by rw [h3,Int.mul_zero,Int.add_zero])
 have hls:=DB hai.ls;have hown:=DB hown;clear hai;have hnx:=Wh.co (l:=xs) (i:=i);have hny:=Wh.co (l:=ys) (i:=i);have hnx:=DB hnx;have hny:=DB hny
 obtain ⟨x,hx⟩:∃ x,Wh.nth xs i=x:=⟨_,rfl⟩
 obtain ⟨y,hy⟩:∃ y,Wh.nth ys i=y:=⟨_,rfl⟩
 rw [hx] at QA hrg hstep hnx;rw [hy] at QB hrg hstep hsx IX hny;clear hx hy;have QA:=DB QA;have QB:=DB QB;generalize hsb:s*y=sb at *
 by_cases ha:i<xs.length
 ·have hiL:i<L:=by omega
  clear hcar hfin hnx hny
  by_cases hx0:x+sb+c<0
  ·skip
   have hS:=hstep.out (x+sb+c+10000) (-1) ⟨by omega,by omega⟩ (by omega) (by intro h1;first | omega | (rcases hs with h | h <;> omega)) (by intro h1;first | omega | (rcases hs with h | h <;> omega));have hS:=DB hS;clear hstep
   go_wp2_with (first
    | (go_at_call 197;first
     | ((with_reducible refine (QA.out _ (hoa.out.below hbr)).mono ?_);rintro e w5 ⟨rfl,rfl⟩)
     | ((with_reducible refine (QB.out _ (Dp.out.below hbr)).mono ?_);rintro e w6 ⟨rfl,rfl⟩))
    | (at_builtin;refine cw (W:=wr) w.heap.size (x+sb+c+10000) _ _ rfl (.tmp 48) (.tmp 50) rfl rfl rfl hown.out (DE _ _) (by omega) (by omega) ?_;rintro v6 w6 hown6 hb6))
   go_roundw
   case rel=>exact ⟨i+1,_,_,by omega,fun h=>by first | rfl | omega,by go_num,by go_num,hown6,hS.out,hbr.trans hb6⟩
   case measure=>simp [intOf];omega
  by_cases hx1:10000<=x+sb+c
  ·skip
   have hS:=hstep.out (x+sb+c - 10000) (1) ⟨by omega,by omega⟩ (by omega) (by intro h1;first | omega | (rcases hs with h | h <;> omega)) (by intro h1;first | omega | (rcases hs with h | h <;> omega));have hS:=DB hS;clear hstep
   go_wp2_with (first
    | (go_at_call 197;first
     | ((with_reducible refine (QA.out _ (hoa.out.below hbr)).mono ?_);rintro e w5 ⟨rfl,rfl⟩)
     | ((with_reducible refine (QB.out _ (Dp.out.below hbr)).mono ?_);rintro e w6 ⟨rfl,rfl⟩))
    | (at_builtin;refine cw (W:=wr) w.heap.size (x+sb+c - 10000) _ _ rfl (.tmp 48) (.tmp 50) rfl rfl rfl hown.out (DE _ _) (by omega) (by omega) ?_;rintro v6 w6 hown6 hb6))
   go_roundw
   case rel=>exact ⟨i+1,_,_,by omega,fun h=>by first | rfl | omega,by go_num,by go_num,hown6,hS.out,hbr.trans hb6⟩
   case measure=>simp [intOf];omega
  skip
  have hS:=hstep.out (x+sb+c) (0) ⟨by omega,by omega⟩ (by omega) (by intro h1;first | omega | (rcases hs with h | h <;> omega)) (by intro h1;first | omega | (rcases hs with h | h <;> omega));have hS:=DB hS;clear hstep
  go_wp2_with (first
   | (go_at_call 197;first
    | ((with_reducible refine (QA.out _ (hoa.out.below hbr)).mono ?_);rintro e w5 ⟨rfl,rfl⟩)
    | ((with_reducible refine (QB.out _ (Dp.out.below hbr)).mono ?_);rintro e w6 ⟨rfl,rfl⟩))
   | (at_builtin;refine cw (W:=wr) w.heap.size (x+sb+c) _ _ rfl (.tmp 48) (.tmp 50) rfl rfl rfl hown.out (DE _ _) (by omega) (by omega) ?_;rintro v6 w6 hown6 hb6))
  go_roundw
  case rel=>exact ⟨i+1,_,_,by omega,fun h=>by first | rfl | omega,by go_num,by go_num,hown6,hS.out,hbr.trans hb6⟩
  case measure=>simp [intOf];omega
 by_cases hb:i<ys.length
 ·have hiL:i<L:=by omega
  clear hcar hfin hnx hny
  by_cases hx0:x+sb+c<0
  ·skip
   have hS:=hstep.out (x+sb+c+10000) (-1) ⟨by omega,by omega⟩ (by omega) (by intro h1;first | omega | (rcases hs with h | h <;> omega)) (by intro h1;first | omega | (rcases hs with h | h <;> omega));have hS:=DB hS;clear hstep
   go_wp2_with (first
    | (go_at_call 197;first
     | ((with_reducible refine (QA.out _ (hoa.out.below hbr)).mono ?_);rintro e w5 ⟨rfl,rfl⟩)
     | ((with_reducible refine (QB.out _ (Dp.out.below hbr)).mono ?_);rintro e w6 ⟨rfl,rfl⟩))
    | (at_builtin;refine cw (W:=wr) w.heap.size (x+sb+c+10000) _ _ rfl (.tmp 48) (.tmp 50) rfl rfl rfl hown.out (DE _ _) (by omega) (by omega) ?_;rintro v6 w6 hown6 hb6))
   go_roundw
   case rel=>exact ⟨i+1,_,_,by omega,fun h=>by first | rfl | omega,by go_num,by go_num,hown6,hS.out,hbr.trans hb6⟩
   case measure=>simp [intOf];omega
  by_cases hx1:10000<=x+sb+c
  ·skip
   have hS:=hstep.out (x+sb+c - 10000) (1) ⟨by omega,by omega⟩ (by omega) (by intro h1;first | omega | (rcases hs with h | h <;> omega)) (by intro h1;first | omega | (rcases hs with h | h <;> omega));have hS:=DB hS;clear hstep
   go_wp2_with (first
    | (go_at_call 197;first
     | ((with_reducible refine (QA.out _ (hoa.out.below hbr)).mono ?_);rintro e w5 ⟨rfl,rfl⟩)
     | ((with_reducible refine (QB.out _ (Dp.out.below hbr)).mono ?_);rintro e w6 ⟨rfl,rfl⟩))
    | (at_builtin;refine cw (W:=wr) w.heap.size (x+sb+c - 10000) _ _ rfl (.tmp 48) (.tmp 50) rfl rfl rfl hown.out (DE _ _) (by omega) (by omega) ?_;rintro v6 w6 hown6 hb6))
   go_roundw
   case rel=>exact ⟨i+1,_,_,by omega,fun h=>by first | rfl | omega,by go_num,by go_num,hown6,hS.out,hbr.trans hb6⟩
   case measure=>simp [intOf];omega
  skip
  have hS:=hstep.out (x+sb+c) (0) ⟨by omega,by omega⟩ (by omega) (by intro h1;first | omega | (rcases hs with h | h <;> omega)) (by intro h1;first | omega | (rcases hs with h | h <;> omega));have hS:=DB hS;clear hstep
  go_wp2_with (first
   | (go_at_call 197;first
    | ((with_reducible refine (QA.out _ (hoa.out.below hbr)).mono ?_);rintro e w5 ⟨rfl,rfl⟩)
    | ((with_reducible refine (QB.out _ (Dp.out.below hbr)).mono ?_);rintro e w6 ⟨rfl,rfl⟩))
   | (at_builtin;refine cw (W:=wr) w.heap.size (x+sb+c) _ _ rfl (.tmp 48) (.tmp 50) rfl rfl rfl hown.out (DE _ _) (by omega) (by omega) ?_;rintro v6 w6 hown6 hb6))
  go_roundw
  case rel=>exact ⟨i+1,_,_,by omega,fun h=>by first | rfl | omega,by go_num,by go_num,hown6,hS.out,hbr.trans hb6⟩
  case measure=>simp [intOf];omega
 by_cases hc0:c=0
 ·subst hc0
  have hv:=hfin.out (by omega) (by omega) rfl
  have hres:Hid (∀ vo W b,aF W b vo o->kc W b vo (Wh.val xs+s*Wh.val ys) (xs.length+ys.length+1)):=DB fun vo W b h=>⟨o,h,hls.out,hv.symm,by omega⟩
  clear hstep hcar hfin hnx hny hv;go_wp2;go_ret;exact ⟨_,rfl,hres.out _ _ _ hown.out,hbr⟩
 have hc1:=hcar.out (by omega) (by omega) hc0
 have hiL:i<=L:=by
  by_cases h:L<i
  ·exact absurd (hic h) hc0
  omega
 have hx0_:=hnx.out (by omega);have Qw:=hny.out (by omega)
 have LK:sb=0:=by rw [←hsb,Qw,Int.mul_zero]
 clear hcar hfin hnx hny
 by_cases hx0:x+sb+c<0
 ·skip
  exfalso;omega
 by_cases hx1:10000<=x+sb+c
 ·skip
  exfalso;omega
 skip
 have hS:=hstep.out (1) (0) ⟨by omega,by omega⟩ (by omega) (by intro h1;first | omega | (rcases hs with h | h <;> omega)) (by intro h1;first | omega | (rcases hs with h | h <;> omega));have hS:=DB hS;clear hstep
 go_wp2_with (first
  | (go_at_call 197;first
   | ((with_reducible refine (QA.out _ (hoa.out.below hbr)).mono ?_);rintro e w5 ⟨rfl,rfl⟩)
   | ((with_reducible refine (QB.out _ (Dp.out.below hbr)).mono ?_);rintro e w6 ⟨rfl,rfl⟩))
  | (at_builtin;refine cw (W:=wr) w.heap.size (1) _ _ rfl (.tmp 48) (.tmp 50) rfl rfl rfl hown.out (DE _ _) (by omega) (by omega) ?_;rintro v6 w6 hown6 hb6))
 go_roundw
 case rel=>exact ⟨i+1,_,_,by omega,fun h=>by first | rfl | omega,by go_num,by go_num,hown6,hS.out,hbr.trans hb6⟩
 case measure=>simp [intOf];omega
theorem gt (z y:Int) (n:Nat) (neg:Bool) (v:Value) (w:World) (base:Nat) (ho:kc w base v y n) (hn:n<=1000000) (hz:Wh.Dv neg y=z) :
  Calls Tryz.prog 196 #[neg,v] w fun e w'=>∃ sl,e=.returned (.agg #[decide (z<0),sl])/\ae w' w.heap.size sl z/\Below w.heap.size w w':=by
 obtain ⟨o,h1,h2,h3,h4⟩:=ho;exact gu z neg o v w base h1 h2 (by omega) (by rw [h3];exact hz)
theorem kF (a b:Int) (va vb:Value) (w:World) (ba bb:Nat) (hoa:ae w ba va a) (Dp:ae w bb vb b) (hl1:(Wh.a_ a.natAbs).length<=10000) (hl2:(Wh.a_ b.natAbs).length<=10000) :
  Calls Tryz.prog 188 #[.agg #[decide (a<0),va],.agg #[decide (b<0),vb]] w fun e w'=>∃ sl,e=.returned (.agg #[decide (a+b<0),sl])/\ae w' w.heap.size sl (a+b)/\Below w.heap.size w w':=by
 obtain ⟨aa,j_,rfl,-,-⟩:=aF.view hoa;obtain ⟨ab,DM,rfl,-,-⟩:=aF.view Dp
 have PA:=fun s hs h0 W h1 h2=>jp (Wh.a_ a.natAbs) (Wh.a_ b.natAbs) s (.slice aa (Wh.a_ a.natAbs).length j_) (.slice ab (Wh.a_ b.natAbs).length DM) W ba bb hs h1 h2 (Wh.an _) (Wh.an _) h0 (by omega) (by omega)
 rw [Wh.bE,Wh.bE] at PA
 have PA':=fun s hs h0 W h1 h2=>jp (Wh.a_ b.natAbs) (Wh.a_ a.natAbs) s (.slice ab (Wh.a_ b.natAbs).length DM) (.slice aa (Wh.a_ a.natAbs).length j_) W bb ba hs h1 h2 (Wh.an _) (Wh.an _) h0 (by omega) (by omega)
 rw [Wh.bE,Wh.bE] at PA'
 have PO:=fun W h1 h2=>tg (Wh.a_ a.natAbs) (Wh.a_ b.natAbs) (.slice aa (Wh.a_ a.natAbs).length j_) (.slice ab (Wh.a_ b.natAbs).length DM) W ba bb h1 h2 (Wh.an _) (Wh.an _) (by omega) (by omega)
 rw [Wh.bE,Wh.bE] at PO
 have PT:=fun s y (h:Wh.Dv s y=a+b) W v base ho=>gt (a+b) y ((Wh.a_ a.natAbs).length+(Wh.a_ b.natAbs).length+1) s v W base ho (by omega) h
 have J_:=fun s y (h:Wh.Dv s y=a+b) W v base ho=>gt (a+b) y ((Wh.a_ b.natAbs).length+(Wh.a_ a.natAbs).length+1) s v W base ho (by omega) h
 have FV:Hid (∀ W,Below w.heap.size w W->aF W ba (.slice aa (Wh.a_ a.natAbs).length j_) (Wh.a_ a.natAbs)):=DB fun W h=>aF.below hoa h
 have GV:Hid (∀ W,Below w.heap.size w W->aF W bb (.slice ab (Wh.a_ b.natAbs).length DM) (Wh.a_ b.natAbs)):=DB fun W h=>aF.below Dp h
 obtain ⟨s1,hs1⟩:∃ s,decide (a<0)=s:=⟨_,rfl⟩
 obtain ⟨s2,hs2⟩:∃ s,decide (b<0)=s:=⟨_,rfl⟩
 clear hoa Dp
 by_cases hss:s1=s2
 ·subst hss
  have PT:=DB (PT s1 _ (Wh.add_same hs1 hs2));have PA:=DB (PA 1 (Or.inl rfl) (by omega));rw [hs1,hs2];clear hs1 hs2 PA' J_ PO;generalize (a.natAbs:Int)+1*(b.natAbs:Int)=y at *;generalize Wh.a_ b.natAbs=ys,Wh.a_ a.natAbs=xs,a+b=z at *;generalize decide (z<0)=s,ys.length=l2,xs.length=l1 at *;obtain ⟨w3,hw3,b1,b2,b3,hB⟩:=fy w (.bool s1) (.slice aa l1 j_) 116 (.bool s1) (.slice ab l2 DM) 116 (.bool false) (.slice none 0 0) 116;have n1:=b1;have n2:=b2;have n3:=b3;have Bn:=hB;clear b1 b2 b3;have e1:=n1.c0;have e2:=n1.c1;have e3:=n2.c0;have e4:=n2.c1;go_enter Tryz.func188,Tryz.ntmps188
  go_wp2
  go_region_held3 (fun W=>W.cell? ⟨w.heap.size,0,none⟩=some (.bool s1)/\W.cell? ⟨w.heap.size,1,none⟩=some (.slice aa l1 j_)/\W.cell? ⟨w.heap.size+1,0,none⟩=some (.bool s1)/\W.cell? ⟨w.heap.size+1,1,none⟩=some (.slice ab l2 DM)) (first | (refine ⟨?_,?_,?_,?_⟩ <;> (first | (with_reducible exact aE (by assumption) (by assumption)) | (with_reducible exact Gr.bJ (by assumption)) | (with_reducible refine Gr.bp (by assumption) ?_;(intro DI;(try simp only [DC,aP,World.heap_drewN,aK] at DI);omega)) | (with_reducible refine Gr.eN (by assumption) ?_ ?_ <;> (intro DI;(try simp only [DC,aP,World.heap_drewN,aK] at DI);omega)) | exact aE (by assumption) (by assumption) | (with_reducible exact bI (by assumption) (by assumption) (by assumption)))) | (go_split_ands;(refine ⟨?_,?_,?_,?_⟩ <;> (first | (with_reducible exact aE (by assumption) (by assumption)) | (with_reducible exact Gr.bJ (by assumption)) | (with_reducible refine Gr.bp (by assumption) ?_;(intro DI;(try simp only [DC,aP,World.heap_drewN,aK] at DI);omega)) | (with_reducible refine Gr.eN (by assumption) ?_ ?_ <;> (intro DI;(try simp only [DC,aP,World.heap_drewN,aK] at DI);omega)) | exact aE (by assumption) (by assumption) | (with_reducible exact bI (by assumption) (by assumption) (by assumption))))) | go_keep) ((first
   | (go_at_call 200;(with_reducible refine (PA.out _ (FV.out _ Bn.drew) (GV.out _ Bn.drew)).mono ?_);rintro e w4 ⟨v4,rfl,DS,hb4⟩;have B4:=Bn.drew.trans (hb4.mono Bn.size);have r4:=n3.drew.keep hb4;have EX:=aE hb4 (ai e1);have FD:=aE hb4 (ai e2);have GG:=aE hb4 (ai e3);have Gi:=aE hb4 (ai e4);(have z4:w3.heap.size<=w4.heap.size:=hb4.size))
   | (go_at_call 196;(with_reducible refine (PT.out _ _ _ DS).mono ?_);rintro e w5 ⟨vc,rfl,hoc,hbc⟩;obtain ⟨ac,x_,rfl,hmc,Dd⟩:=aF.view hoc;have B5:=d_ B4 hbc;have r5:=r4.keep hbc;have c0:=r5.c0;have c1:=r5.c1;have g0:=r5.f0;have g1:=r5.f1;have Gs:=aE hbc EX;have Hk:=aE hbc FD;have J6:=aE hbc GG;have KM:=aE hbc Gi;clear Dd hmc)
   | fail "ARMS"))
  all_goals
   have hr:=cL (w:=w) (w.heap.size+1+1) _ (.bool s) (by omega) (Nat.lt_of_lt_of_le n3.size z4) hoc B5;generalize (Wh.a_ z.natAbs).length=D2 at *;go_wp2;exact bodyPost_ret (v:=.agg #[s,.slice ac D2 x_]) (by simp [results,Tryz.results188,go_sem, *]) rfl (⟨_,rfl,hr.1,hr.2⟩)
 obtain rfl:s2=!s1:=by cases s1 <;> cases s2 <;> simp_all
 have hsn:(s1 == !s1)=false:=by cases s1 <;> rfl
 clear hss;have hd:=Wh.io (a:=a) (b:=b) hs1 hs2;have hd':=Wh.io (a:=b) (b:=a) hs2 (by rw [Bool.not_not];exact hs1);rw [Int.add_comm b a] at hd';rw [hs1,hs2];clear hs1 hs2
 by_cases hlt:a.natAbs<b.natAbs
 ·skip
  have PT:=DB (J_ (!s1) _ hd');have PA:=DB (PA' (-1) (Or.inr rfl) (by omega));rw [Wh.jg (by omega)] at PO;have PO:=DB PO;clear hlt hd hd' J_ PA';generalize (b.natAbs:Int)+-1*(a.natAbs:Int)=y at *;generalize Wh.a_ b.natAbs=ys,Wh.a_ a.natAbs=xs,a+b=z at *;generalize decide (z<0)=s,ys.length=l2,xs.length=l1 at *;obtain ⟨w3,hw3,b1,b2,b3,hB⟩:=fy w (.bool s1) (.slice aa l1 j_) 116 (.bool (!s1)) (.slice ab l2 DM) 116 (.bool false) (.slice none 0 0) 116;have i1:=b1.c0;have i2:=b1.c1;have i3:=b2.c0;have i4:=b2.c1;go_enter Tryz.func188,Tryz.ntmps188
  go_wp2_with (go_at_call 201;(with_reducible refine (PO.out _ (FV.out _ hB) (GV.out _ hB)).mono ?_);rintro e wm ⟨rfl,EY⟩;have n1:=b1.keep EY;have n2:=b2.keep EY;have n3:=b3.keep EY;have Bn:=d_ hB EY)
  clear i1 i2 i3 i4 b1 b2 b3 EY;have e1:=n1.c0;have e2:=n1.c1;have e3:=n2.c0;have e4:=n2.c1
  go_region_held3 (fun W=>W.cell? ⟨w.heap.size,0,none⟩=some (.bool s1)/\W.cell? ⟨w.heap.size,1,none⟩=some (.slice aa l1 j_)/\W.cell? ⟨w.heap.size+1,0,none⟩=some (.bool (!s1))/\W.cell? ⟨w.heap.size+1,1,none⟩=some (.slice ab l2 DM)) (first | (refine ⟨?_,?_,?_,?_⟩ <;> (first | (with_reducible exact aE (by assumption) (by assumption)) | (with_reducible exact Gr.bJ (by assumption)) | (with_reducible refine Gr.bp (by assumption) ?_;(intro DI;(try simp only [DC,aP,World.heap_drewN,aK] at DI);omega)) | (with_reducible refine Gr.eN (by assumption) ?_ ?_ <;> (intro DI;(try simp only [DC,aP,World.heap_drewN,aK] at DI);omega)) | exact aE (by assumption) (by assumption) | (with_reducible exact bI (by assumption) (by assumption) (by assumption)))) | (go_split_ands;(refine ⟨?_,?_,?_,?_⟩ <;> (first | (with_reducible exact aE (by assumption) (by assumption)) | (with_reducible exact Gr.bJ (by assumption)) | (with_reducible refine Gr.bp (by assumption) ?_;(intro DI;(try simp only [DC,aP,World.heap_drewN,aK] at DI);omega)) | (with_reducible refine Gr.eN (by assumption) ?_ ?_ <;> (intro DI;(try simp only [DC,aP,World.heap_drewN,aK] at DI);omega)) | exact aE (by assumption) (by assumption) | (with_reducible exact bI (by assumption) (by assumption) (by assumption))))) | go_keep) ((first
   | (go_at_call 200;(with_reducible refine (PA.out _ (GV.out _ Bn.drew) (FV.out _ Bn.drew)).mono ?_);rintro e w4 ⟨v4,rfl,DS,hb4⟩;have B4:=Bn.drew.trans (hb4.mono Bn.size);have r4:=n3.drew.keep hb4;have EX:=aE hb4 (ai e1);have FD:=aE hb4 (ai e2);have GG:=aE hb4 (ai e3);have Gi:=aE hb4 (ai e4);(have z4:wm.heap.size<=w4.heap.size:=hb4.size))
   | (go_at_call 196;(with_reducible refine (PT.out _ _ _ DS).mono ?_);rintro e w5 ⟨vc,rfl,hoc,hbc⟩;obtain ⟨ac,x_,rfl,hmc,Dd⟩:=aF.view hoc;have B5:=d_ B4 hbc;have r5:=r4.keep hbc;have c0:=r5.c0;have c1:=r5.c1;have g0:=r5.f0;have g1:=r5.f1;have Gs:=aE hbc EX;have Hk:=aE hbc FD;have J6:=aE hbc GG;have KM:=aE hbc Gi;clear Dd hmc)
   | fail "ARMS"))
  all_goals
   have hr:=cL (w:=w) (w.heap.size+1+1) _ (.bool s) (by omega) (Nat.lt_of_lt_of_le n3.size z4) hoc B5;generalize (Wh.a_ z.natAbs).length=D2 at *;go_wp2;exact bodyPost_ret (v:=.agg #[s,.slice ac D2 x_]) (by simp [results,Tryz.results188,go_sem, *]) rfl (⟨_,rfl,hr.1,hr.2⟩)
 skip
 have PT:=DB (PT s1 _ hd);have PA:=DB (PA (-1) (Or.inr rfl) (by omega))
 have hr0:0<=Wh.Du (a.natAbs:Int) (b.natAbs:Int):=by unfold Wh.Du;rw [if_neg (by omega)];split <;> omega
 generalize Wh.Du (a.natAbs:Int) (b.natAbs:Int)=rr at *;have PO:=DB PO;clear hlt hd hd' J_ PA';generalize (a.natAbs:Int)+-1*(b.natAbs:Int)=y at *;generalize Wh.a_ b.natAbs=ys,Wh.a_ a.natAbs=xs,a+b=z at *;generalize decide (z<0)=s,ys.length=l2,xs.length=l1 at *;obtain ⟨w3,hw3,b1,b2,b3,hB⟩:=fy w (.bool s1) (.slice aa l1 j_) 116 (.bool (!s1)) (.slice ab l2 DM) 116 (.bool false) (.slice none 0 0) 116;have i1:=b1.c0;have i2:=b1.c1;have i3:=b2.c0;have i4:=b2.c1;go_enter Tryz.func188,Tryz.ntmps188
 go_wp2_with (go_at_call 201;(with_reducible refine (PO.out _ (FV.out _ hB) (GV.out _ hB)).mono ?_);rintro e wm ⟨rfl,EY⟩;have n1:=b1.keep EY;have n2:=b2.keep EY;have n3:=b3.keep EY;have Bn:=d_ hB EY)
 clear i1 i2 i3 i4 b1 b2 b3 EY;have e1:=n1.c0;have e2:=n1.c1;have e3:=n2.c0;have e4:=n2.c1
 go_region_held3 (fun W=>W.cell? ⟨w.heap.size,0,none⟩=some (.bool s1)/\W.cell? ⟨w.heap.size,1,none⟩=some (.slice aa l1 j_)/\W.cell? ⟨w.heap.size+1,0,none⟩=some (.bool (!s1))/\W.cell? ⟨w.heap.size+1,1,none⟩=some (.slice ab l2 DM)) (first | (refine ⟨?_,?_,?_,?_⟩ <;> (first | (with_reducible exact aE (by assumption) (by assumption)) | (with_reducible exact Gr.bJ (by assumption)) | (with_reducible refine Gr.bp (by assumption) ?_;(intro DI;(try simp only [DC,aP,World.heap_drewN,aK] at DI);omega)) | (with_reducible refine Gr.eN (by assumption) ?_ ?_ <;> (intro DI;(try simp only [DC,aP,World.heap_drewN,aK] at DI);omega)) | exact aE (by assumption) (by assumption) | (with_reducible exact bI (by assumption) (by assumption) (by assumption)))) | (go_split_ands;(refine ⟨?_,?_,?_,?_⟩ <;> (first | (with_reducible exact aE (by assumption) (by assumption)) | (with_reducible exact Gr.bJ (by assumption)) | (with_reducible refine Gr.bp (by assumption) ?_;(intro DI;(try simp only [DC,aP,World.heap_drewN,aK] at DI);omega)) | (with_reducible refine Gr.eN (by assumption) ?_ ?_ <;> (intro DI;(try simp only [DC,aP,World.heap_drewN,aK] at DI);omega)) | exact aE (by assumption) (by assumption) | (with_reducible exact bI (by assumption) (by assumption) (by assumption))))) | go_keep) ((first
  | (go_at_call 200;(with_reducible refine (PA.out _ (FV.out _ Bn.drew) (GV.out _ Bn.drew)).mono ?_);rintro e w4 ⟨v4,rfl,DS,hb4⟩;have B4:=Bn.drew.trans (hb4.mono Bn.size);have r4:=n3.drew.keep hb4;have EX:=aE hb4 (ai e1);have FD:=aE hb4 (ai e2);have GG:=aE hb4 (ai e3);have Gi:=aE hb4 (ai e4);(have z4:wm.heap.size<=w4.heap.size:=hb4.size))
  | (go_at_call 196;(with_reducible refine (PT.out _ _ _ DS).mono ?_);rintro e w5 ⟨vc,rfl,hoc,hbc⟩;obtain ⟨ac,x_,rfl,hmc,Dd⟩:=aF.view hoc;have B5:=d_ B4 hbc;have r5:=r4.keep hbc;have c0:=r5.c0;have c1:=r5.c1;have g0:=r5.f0;have g1:=r5.f1;have Gs:=aE hbc EX;have Hk:=aE hbc FD;have J6:=aE hbc GG;have KM:=aE hbc Gi;clear Dd hmc)
  | fail "ARMS"))
 all_goals
  have hr:=cL (w:=w) (w.heap.size+1+1) _ (.bool s) (by omega) (Nat.lt_of_lt_of_le n3.size z4) hoc B5;generalize (Wh.a_ z.natAbs).length=D2 at *;go_wp2;exact bodyPost_ret (v:=.agg #[s,.slice ac D2 x_]) (by simp [results,Tryz.results188,go_sem, *]) rfl (⟨_,rfl,hr.1,hr.2⟩)
theorem nL (a b:Int) (va vb:Value) (w:World) (ba bb:Nat) (hoa:ae w ba va a) (Dp:ae w bb vb b) (hl1:(Wh.a_ a.natAbs).length<=10000) (hl2:(Wh.a_ b.natAbs).length<=10000) :
  Calls Tryz.prog 202 #[.agg #[decide (a<0),va],.agg #[decide (b<0),vb]] w fun e w'=>∃ sl,e=.returned (.agg #[decide (a - b<0),sl])/\ae w' w.heap.size sl (a - b)/\Below w.heap.size w w':=by
 obtain ⟨aa,j_,rfl,-,-⟩:=aF.view hoa;obtain ⟨ab,DM,rfl,-,-⟩:=aF.view Dp
 have hnl:(Wh.a_ (-b).natAbs).length<=10000:=by rw [Int.natAbs_neg];exact hl2
 have PM:=fun W (h:aF W bb (.slice ab (Wh.a_ b.natAbs).length DM) (Wh.a_ b.natAbs))=>jM b (.slice ab (Wh.a_ b.natAbs).length DM) W bb h (by omega)
 have PA:=fun Ih W bb' (h1:aF W ba (.slice aa (Wh.a_ a.natAbs).length j_) (Wh.a_ a.natAbs)) (h2:ae W bb' Ih (-b))=>kF a (-b) (.slice aa (Wh.a_ a.natAbs).length j_) Ih W ba bb' h1 h2 hl1 hnl
 rw [←Int.sub_eq_add_neg] at PA
 have FV:Hid (∀ W,Below w.heap.size w W->aF W ba (.slice aa (Wh.a_ a.natAbs).length j_) (Wh.a_ a.natAbs)):=DB fun W h=>aF.below hoa h
 have GV:Hid (∀ W,Below w.heap.size w W->aF W bb (.slice ab (Wh.a_ b.natAbs).length DM) (Wh.a_ b.natAbs)):=DB fun W h=>aF.below Dp h
 clear hoa Dp hnl;generalize Wh.a_ b.natAbs=ys,Wh.a_ a.natAbs=xs,-b=nb,a - b=z,decide (b<0)=s2,decide (a<0)=s1 at *;generalize decide (nb<0)=s3,decide (z<0)=s,ys.length=l2,xs.length=l1 at *;have PM:=DB PM;have PA:=DB PA;obtain ⟨w3,hw3,n1,n2,n3,Bn⟩:=fy w (.bool s1) (.slice aa l1 j_) 116 (.bool s2) (.slice ab l2 DM) 116 (.bool false) (.slice none 0 0) 116;have e1:=n1.c0;have e2:=n1.c1;have e3:=n2.c0;have e4:=n2.c1;go_enter Tryz.func202,Tryz.ntmps202
 go_wp2
 go_region_held3 (fun W=>W.cell? ⟨w.heap.size,0,none⟩=some (.bool s1)/\W.cell? ⟨w.heap.size,1,none⟩=some (.slice aa l1 j_)/\W.cell? ⟨w.heap.size+1,0,none⟩=some (.bool s2)/\W.cell? ⟨w.heap.size+1,1,none⟩=some (.slice ab l2 DM)) (first | (refine ⟨?_,?_,?_,?_⟩ <;> (first | (with_reducible exact aE (by assumption) (by assumption)) | (with_reducible exact Gr.bJ (by assumption)) | (with_reducible refine Gr.bp (by assumption) ?_;(intro DI;(try simp only [DC,aP,World.heap_drewN,aK] at DI);omega)) | (with_reducible refine Gr.eN (by assumption) ?_ ?_ <;> (intro DI;(try simp only [DC,aP,World.heap_drewN,aK] at DI);omega)) | exact aE (by assumption) (by assumption) | (with_reducible exact bI (by assumption) (by assumption) (by assumption)))) | (go_split_ands;(refine ⟨?_,?_,?_,?_⟩ <;> (first | (with_reducible exact aE (by assumption) (by assumption)) | (with_reducible exact Gr.bJ (by assumption)) | (with_reducible refine Gr.bp (by assumption) ?_;(intro DI;(try simp only [DC,aP,World.heap_drewN,aK] at DI);omega)) | (with_reducible refine Gr.eN (by assumption) ?_ ?_ <;> (intro DI;(try simp only [DC,aP,World.heap_drewN,aK] at DI);omega)) | exact aE (by assumption) (by assumption) | (with_reducible exact bI (by assumption) (by assumption) (by assumption))))) | go_keep) ((first
  | (go_at_call 192;(with_reducible refine (PM.out _ (GV.out _ Bn.drew)).mono ?_);rintro e w4 ⟨v4,rfl,DS,hb4⟩;have B4:=Bn.drew.trans (hb4.mono Bn.size);have r4:=n3.drew.keep hb4;have EX:=aE hb4 (ai e1);have FD:=aE hb4 (ai e2);have GG:=aE hb4 (ai e3);have Gi:=aE hb4 (ai e4);(have z4:w3.heap.size<=w4.heap.size:=hb4.size))
  | (go_at_call 188;(with_reducible refine (PA.out _ _ _ (FV.out _ B4) DS).mono ?_);rintro e w5 ⟨vc,rfl,hoc,hbc⟩;obtain ⟨ac,x_,rfl,hmc,Dd⟩:=aF.view hoc;have B5:=d_ B4 hbc;have r5:=r4.keep hbc;have c0:=r5.c0;have c1:=r5.c1;have g0:=r5.f0;have g1:=r5.f1;have Gs:=aE hbc EX;have Hk:=aE hbc FD;have J6:=aE hbc GG;have KM:=aE hbc Gi;clear Dd hmc)
  | fail "ARMS"))
 all_goals
  have hr:=cL (w:=w) (w.heap.size+1+1) _ (.bool s) (by omega) (Nat.lt_of_lt_of_le n3.size z4) hoc B5;generalize (Wh.a_ z.natAbs).length=D2 at *;go_wp2;exact bodyPost_ret (v:=.agg #[s,.slice ac D2 x_]) (by simp [results,Tryz.results202,go_sem, *]) rfl (⟨_,rfl,hr.1,hr.2⟩)
theorem ll (a n:Int) (va:Value) (w:World) (ba:Nat) (hoa:ae w ba va a) (hl1:(Wh.a_ a.natAbs).length<=10000) (hn1:-1000000000000000000<=n) (hn2:n<=1000000000000000000) :
  Calls Tryz.prog 92 #[.agg #[decide (a<0),va],n] w fun e w'=>∃ sl,e=.returned (.agg #[decide (a*n<0),sl])/\ae w' w.heap.size sl (a*n)/\Below w.heap.size w w':=by
 obtain ⟨aa,j_,rfl,-,-⟩:=aF.view hoa;have hnl:(Wh.a_ n.natAbs).length<=10000:=Nat.le_trans (Wh.dL (k:=5) (by omega)) (by decide)
 have PM:=fun W=>bX n W hn1 hn2
 have PA:=fun Ih W bb' (h1:aF W ba (.slice aa (Wh.a_ a.natAbs).length j_) (Wh.a_ a.natAbs)) (h2:ae W bb' Ih n)=>cn a n (.slice aa (Wh.a_ a.natAbs).length j_) Ih W ba bb' h1 h2 hl1 hnl
 have FV:Hid (∀ W,Below w.heap.size w W->aF W ba (.slice aa (Wh.a_ a.natAbs).length j_) (Wh.a_ a.natAbs)):=DB fun W h=>aF.below hoa h
 clear hoa hnl hn1 hn2;generalize Wh.a_ a.natAbs=xs,a*n=z,decide (a<0)=s1 at *;generalize decide (n<0)=s3,decide (z<0)=s,xs.length=l1 at *;have PM:=DB PM;have PA:=DB PA;have n1:=(ay.new w (.bool s1) (.slice aa l1 j_) 116).alloc (.cells #[false,.slice none 0 0] 116);have n3:=ay.new2 w (.cells #[s1,.slice aa l1 j_] 116) (.bool false) (.slice none 0 0) 116;have Bn:=((DE w.heap.size w).alloc (DF _) (.cells #[s1,.slice aa l1 j_] 116)).alloc (by rw [DC];omega) (.cells #[false,.slice none 0 0] 116);generalize hw3:(w.alloc (.cells #[s1,.slice aa l1 j_] 116)).alloc (.cells #[false,.slice none 0 0] 116)=w3 at *;have e1:=n1.c0;have e2:=n1.c1;go_enter Tryz.func92,Tryz.ntmps92
 go_wp2
 go_region_held3 (fun W=>W.cell? ⟨w.heap.size,0,none⟩=some (.bool s1)/\W.cell? ⟨w.heap.size,1,none⟩=some (.slice aa l1 j_)) (first | (refine ⟨?_,?_⟩ <;> (first | (with_reducible exact aE (by assumption) (by assumption)) | (with_reducible exact Gr.bJ (by assumption)) | (with_reducible refine Gr.bp (by assumption) ?_;(intro DI;(try simp only [DC,aP,World.heap_drewN,aK] at DI);omega)) | (with_reducible refine Gr.eN (by assumption) ?_ ?_ <;> (intro DI;(try simp only [DC,aP,World.heap_drewN,aK] at DI);omega)) | exact aE (by assumption) (by assumption) | (with_reducible exact bI (by assumption) (by assumption) (by assumption)))) | (go_split_ands;(refine ⟨?_,?_⟩ <;> (first | (with_reducible exact aE (by assumption) (by assumption)) | (with_reducible exact Gr.bJ (by assumption)) | (with_reducible refine Gr.bp (by assumption) ?_;(intro DI;(try simp only [DC,aP,World.heap_drewN,aK] at DI);omega)) | (with_reducible refine Gr.eN (by assumption) ?_ ?_ <;> (intro DI;(try simp only [DC,aP,World.heap_drewN,aK] at DI);omega)) | exact aE (by assumption) (by assumption) | (with_reducible exact bI (by assumption) (by assumption) (by assumption))))) | go_keep) ((first
  | (go_at_call 88;(with_reducible refine (PM.out _).mono ?_);rintro e w4 ⟨v4,rfl,DS,hb4⟩;have B4:=Bn.drew.trans (hb4.mono Bn.size);have r4:=n3.drew.keep hb4;have EX:=aE hb4 (ai e1);have FD:=aE hb4 (ai e2);(have z4:w3.heap.size<=w4.heap.size:=hb4.size))
  | (go_at_call 87;(with_reducible refine (PA.out _ _ _ (FV.out _ B4) DS).mono ?_);rintro e w5 ⟨vc,rfl,hoc,hbc⟩;obtain ⟨ac,x_,rfl,hmc,Dd⟩:=aF.view hoc;have B5:=d_ B4 hbc;have r5:=r4.keep hbc;have c0:=r5.c0;have c1:=r5.c1;have g0:=r5.f0;have g1:=r5.f1;have Gs:=aE hbc EX;have Hk:=aE hbc FD;clear Dd hmc)
  | fail "ARMS"))
 all_goals
  have hr:=cL (w:=w) (w.heap.size+1) _ (.bool s) (by omega) (Nat.lt_of_lt_of_le n3.size z4) hoc B5;generalize (Wh.a_ z.natAbs).length=D2 at *;go_wp2;exact bodyPost_ret (v:=.agg #[s,.slice ac D2 x_]) (by simp [results,Tryz.results92,go_sem, *]) rfl (⟨_,rfl,hr.1,hr.2⟩)
namespace Wh
theorem tW:∀ (l:List Int) (j:Nat) (t y:Int),l[j]?=some t->val (l.set j y)=val l+10000 ^ j*(y - t)
 | [],j,t,y,h=>by simp at h
 | x :: l,0,t,y,h=>by
  obtain rfl:x=t:=by simpa using h
  show y+10000*val l=x+10000*val l+10000 ^ 0*(y - x)
  rw [Int.pow_zero];omega
 | x :: l,j+1,t,y,h=>by
  have h':l[j]?=some t:=by simpa using h
  show x+10000*val (l.set j y)=x+10000*val l+10000 ^ (j+1)*(y - t)
  rw [tW l j t y h',Int.pow_succ]
  grind
structure ig (a b o:List Int) (x:Int) (i k:Nat):Prop where
 len:o.length=a.length+b.length
 eq:val o=val (a.take i)*val b+10000 ^ i*(x*val (b.take k))
 bd:∀ (j:Nat) (t:Int),o[j]?=some t->0<=t/\t<=(if j<i+k then (i:Int)+1 else i)*99980001
theorem ig.step {a b o:List Int} {x y t:Int} {i k:Nat} (h:ig a b o x i k) (hx:lim x) (hb:bD b) (hy:b[k]?=some y) (ht:o[i+k]?=some t):(0<=t/\t<=(i:Int)*99980001)/\ig a b (o.set (i+k) (t+x*y)) x i (k+1):=by
 have hm:=oL hx (hb y (List.mem_of_getElem? hy));have hb0:=h.bd _ _ ht;rw [if_neg (Nat.lt_irrefl _)] at hb0;refine ⟨hb0,⟨by rw [List.length_set,h.len],?_,?_⟩⟩
 ·rw [tW o _ _ _ ht,h.eq,b6 hy,Int.pow_add]
  grind
 intro j t' hj
 by_cases hjk:j=i+k
 ·subst hjk
  have hlt:=(List.getElem?_eq_some_iff.1 ht).1;rw [List.getElem?_set_self hlt] at hj;obtain rfl:=Option.some.inj hj;rw [if_pos (by omega)];omega
 rw [List.getElem?_set_ne (by omega)] at hj;have:=h.bd j t' hj
 by_cases hlt:j<i+k
 ·rw [if_pos hlt] at this;rw [if_pos (by omega)];exact this
 rw [if_neg hlt] at this;rw [if_neg (by omega)];exact this
theorem ig.row {a b o:List Int} {x:Int} {i:Nat} (h:ig a b o x i b.length) (hx:a[i]?=some x) (z:Int):ig a b o z (i+1) 0:=by
 refine ⟨h.len,?_,?_⟩
 ·rw [h.eq,List.take_length,b6 hx]
  simp [val]
  grind
 intro j t hj;have:=h.bd j t hj
 have hi:((i+1:Nat):Int)=(i:Int)+1:=by omega
 rw [hi]
 by_cases h1:j<i+1+0
 ·rw [if_pos h1]
  split at this <;> omega
 rw [if_neg h1]
 split at this <;> omega
theorem ig.start (a b:List Int) (x:Int):ig a b (List.replicate (a.length+b.length) 0) x 0 0:=by
 refine ⟨List.length_replicate,by rw [yT];simp [val],?_⟩;intro j t hj;rw [List.getElem?_replicate] at hj
 split at hj
 ·obtain rfl:=Option.some.inj hj
  split <;> simp
 cases hj
structure kY (o0 o:List Int) (i:Nat) (c:Int):Prop where
 len:o.length=o0.length
 eq:val (o.take i)+10000 ^ i*c=val (o0.take i)
 rest:o.drop i=o0.drop i
 ls:bD (o.take i)
 c0:0<=c/\c<=1000000000
theorem kY.start (o:List Int):kY o o 0 0 where
 len:=rfl
 eq:=by simp
 rest:=rfl
 ls:=fun x hx=>by simp at hx
 c0:=by omega
theorem kY.BZ {o0 o:List Int} {i:Nat} {c:Int} (h:kY o0 o i c):o[i]?=o0[i]?:=by
 have:=congrArg (fun l:List Int=>l[0]?) h.rest
 simpa [List.getElem?_drop] using this
theorem kY.step {o0 o:List Int} {i:Nat} {c t:Int} (h:kY o0 o i c) (ht:o0[i]?=some t) (hb:0<=t/\t<=1000000000000):kY o0 (o.set i ((t+c) % 10000)) (i+1) ((t+c) / 10000):=by
 have hk:=(List.getElem?_eq_some_iff.1 ht).1;have hc:=h.c0
 have htk:(o.set i ((t+c) % 10000)).take i=o.take i:=by
  rw [List.take_set,List.set_eq_of_length_le (by rw [List.length_take];omega)]
 have hsk:(o.set i ((t+c) % 10000))[i]?=some ((t+c) % 10000):=List.getElem?_set_self (by rw [h.len];exact hk);refine ⟨by rw [List.length_set,h.len],?_,?_,?_,by omega⟩
 ·rw [b6 hsk,htk,b6 ht,Int.pow_succ]
  have e:=h.eq;have hd:=Int.mul_ediv_add_emod (t+c) 10000;generalize (t+c) % 10000=r,(t+c) / 10000=q at *;generalize (10000:Int) ^ i=P at *;generalize val (o0.take i)=v2,val (o.take i)=v1 at *
  grind
 ·rw [List.drop_set_of_lt (Nat.lt_succ_self i)]
  have:=congrArg (List.drop 1) h.rest
  rwa [List.drop_drop,List.drop_drop] at this
 rw [List.take_add_one,hsk,htk]
 refine cM h.ls fun z hz=>?_
 simp only [Option.toList_some,List.mem_singleton] at hz;subst hz;unfold lim;omega
theorem kY.fin {o0 o:List Int} {n:Nat} {c v:Int} (h:kY o0 o n c) (hn:o0.length=n) (hv:val o0=v) (hlt:v<10000 ^ n):val o=v/\bD o:=by
 have e:=h.eq;have hl:=h.ls;have l1:=h.len;rw [List.take_of_length_le (by omega),List.take_of_length_le (by omega),hv] at e;rw [List.take_of_length_le (by omega)] at hl;have o1:=dB hl;have hp:=pow_pos n;have hc:=h.c0;refine ⟨?_,hl⟩
 by_cases h0:c=0
 ·subst h0;rw [Int.mul_zero] at e;omega
 have:=Int.mul_le_mul_of_nonneg_left (show 1<=c by omega) (Int.le_of_lt hp);omega
end Wh
theorem Wh.ig.chg {a b o:List Int} {x:Int} {i:Nat} (h:ig a b o x i 0) (z:Int):ig a b o z i 0:=
 ⟨h.len,by rw [h.eq];simp [val],h.bd⟩
theorem eJ (a b:Int) (va vb:Value) (w:World) (ba bb:Nat) (hoa:ae w ba va a) (Dp:ae w bb vb b) (hl1:(Wh.a_ a.natAbs).length<=10000) (hl2:(Wh.a_ b.natAbs).length<=10000) :
  Calls Tryz.prog 189 #[.agg #[decide (a<0),va],.agg #[decide (b<0),vb]] w fun e w'=>∃ sl,e=.returned (.agg #[decide (a*b<0),sl])/\ae w' w.heap.size sl (a*b)/\Below w.heap.size w w':=by
 obtain ⟨aa,j_,rfl,hma,hva⟩:=aF.seen hoa;obtain ⟨ab,DM,rfl,hmb,hvb⟩:=aF.seen Dp;have hva:=DB hva;have hvb:=DB hvb;have hla:=DB (Wh.an a.natAbs);have hlb:=DB (Wh.an b.natAbs)
 have PT:=fun W v base ho=>gt (a*b) ((a.natAbs:Int)*(b.natAbs:Int)) ((Wh.a_ a.natAbs).length+(Wh.a_ b.natAbs).length+1) (decide (a<0) != decide (b<0)) v W base ho (by omega) (Wh.sw a b)
 have hpr:Hid (∀ (x y:List Int),x=Wh.a_ a.natAbs->y=Wh.a_ b.natAbs->Wh.val x*Wh.val y=(a.natAbs:Int)*(b.natAbs:Int)):=DB fun x y h1 h2=>by rw [h1,h2,Wh.bE,Wh.bE]
 have hpr:=DB (hpr.out _ _ rfl rfl);generalize decide (b<0)=s2,decide (a<0)=s1 at *;generalize (a.natAbs:Int)*(b.natAbs:Int)=y at *;generalize a*b=z at *;generalize Wh.a_ b.natAbs=ys,Wh.a_ a.natAbs=xs,decide (z<0)=s at *;clear hma hmb hoa Dp;obtain ⟨w3,hw3,b1,b2,b3,hB⟩:=fy w (.bool s1) (.slice aa xs.length j_) 116 (.bool s2) (.slice ab ys.length DM) 116 (.bool false) (.slice none 0 0) 116;obtain ⟨w4,hrun,hown1,hg1⟩:=me w3 (xs.length+ys.length) (by omega);rw [show ((xs.length+ys.length:Nat):Int)=(xs.length:Int)+(ys.length:Int) by omega] at hrun;have hb4:Below w3.heap.size w3 w4:=ck hg1 (DF _) (fun k hk=>by cases hk);have hB3:=DB hB;have e2:=b1.c1;have e4:=b2.c1;have k2:=b1.keep hb4;have k4:=b2.keep hb4;have f2:=k2.c1;have f4:=k4.c1;clear hg1;go_enter Tryz.func189,Tryz.ntmps189
 go_wp2;have F3:=DB b1;have F4:=DB b2;have Iq:=DB b3;clear e2 e4 k2 k4 f2 f4 b1 b2 b3 hB
 go_loopw [6,7,8,9,24] (fun _ _ _ _ vi wr=>∃ (i:Nat) (o:List Int),i<=xs.length/\vi=.int .i64 i/\aF wr w3.heap.size (.slice (some ⟨w3.heap.size,0,none⟩) (xs.length+ys.length) (xs.length+ys.length)) o/\Wh.ig xs ys o 0 i 0/\Below w3.heap.size w3 wr) (fun _ _ _ _ vi _=>xs.length - (intOf vi).toNat)
 case atStart=>exact ⟨0,List.replicate (xs.length+ys.length) 0,Nat.zero_le _,rfl,hown1,Wh.ig.start xs ys 0,hb4⟩
 case round=>
 clear hown1 hb4;obtain ⟨i,o,hi,rfl,hown,hsi,hbr⟩:=hrel;have c1:=F3.out.dZ hbr F3.out.size;have c2:=F4.out.dZ hbr F4.out.size;have c3:=Iq.out.dZ hbr Iq.out.size;have hwr:Below w.heap.size w wr:=hB3.out.trans (hbr.mono hB3.out.size)
 by_cases hlt:i<xs.length
 ·obtain ⟨ga,x,ea,hga,hxa,hca⟩:=hva.out i hlt
  subst ea;have F9:=aE hwr hca;have hlx:=DB (hla.out x (List.mem_of_getElem? hxa.out));have hsx:=hsi.chg x;have d2:=c1.c1;have d4:=c2.c1;clear hca c1 c2 c3 hwr hsi;go_wp2
  go_loopw [8,9,32] (fun _ _ vk wq=>∃ (k:Nat) (p:List Int),k<=ys.length/\vk=.int .i64 k/\aF wq w3.heap.size (.slice (some ⟨w3.heap.size,0,none⟩) (xs.length+ys.length) (xs.length+ys.length)) p/\Wh.ig xs ys p x i k/\Below w3.heap.size w3 wq) (fun _ _ vk _=>ys.length - (intOf vk).toNat)
  case atStart=>exact ⟨0,o,Nat.zero_le _,rfl,hown,hsx,hbr⟩
  case round=>
  clear hown hbr F9 d2 d4 hsx;obtain ⟨k,p,hk,rfl,hown,hsi,hbq⟩:=hrel;have hwq:Below w.heap.size w wr:=hB3.out.trans (hbq.mono hB3.out.size)
  by_cases hkt:k<ys.length
  ·obtain ⟨gb,yb,eb,hgb,hxb,hcb⟩:=hvb.out k hkt
   subst eb;have hcb:=aE hwq hcb;have hpl:=hsi.len
   obtain ⟨t,ht⟩:∃ t,p[i+k]?=some t:=⟨_,List.getElem?_eq_getElem (by omega)⟩
   have hS:=hsi.step hlx.out hlb.out hxb.out ht;have hm:=Wh.oL hlx.out (hlb.out yb (List.mem_of_getElem? hxb.out));have hc0:=aF.cellAt hpl.symm hown ht;have hf0:wr.frozen? ⟨w3.heap.size,i+k,none⟩=false:=gA hpl hown (i+k);have hO:=DB (aF.set (j:=i+k) hpl.symm hown (t+x*yb) rfl);have htb:=hS.1;have hS2:=DB hS.2;have Dk:=DB hbq;have LO:w3.heap.size<wr.heap.size:=World.block_lt_of_cell? wr _ hc0;clear hS hsi hpl ht hown hxb;generalize hpb:x*yb=pb at *;go_wp2
   go_roundw
   case rel=>exact ⟨k+1,_,by omega,by go_num,hO.out.1,hS2.out,Dk.out.setCell (DF _) _⟩
   case measure=>simp [intOf];omega
  obtain rfl:k=ys.length:=by omega
  have hrow:=DB (hsi.row hxa.out 0);have hown:=DB hown;clear hsi;go_wp2
  go_roundw
  case rel=>exact ⟨i+1,p,by omega,by go_num,hown.out,hrow.out,hbq⟩
  case measure=>simp [intOf];omega
 obtain rfl:i=xs.length:=by omega
 have Je:Hid (Wh.val o=y):=DB (by rw [hsi.eq,List.take_length,←hpr.out];simp [Wh.val]);have hyb:Hid (y<10000 ^ (xs.length+ys.length)):=DB (by rw [←hpr.out];exact Wh.tG hla.out hlb.out (DF _))
 have hbd:Hid (∀ (j:Nat) (t:Int),o[j]?=some t->0<=t/\t<=1000000000000):=DB fun j t hj=>by
  have:=hsi.bd j t hj
  split at this <;> omega
 have hol:=DB hsi.len;have d1:=c1.c0;have d3:=c2.c0;clear hsi;go_wp2;clear d1 d3 c1 c2 c3 hwr
 go_loopw [10,11,12,52] (fun vc _ _ vi wq=>∃ (j:Nat) (p:List Int) (c:Int),j<=(xs.length+ys.length)/\vi=.int .i64 j/\vc=.int .i64 c/\aF wq w3.heap.size (.slice (some ⟨w3.heap.size,0,none⟩) (xs.length+ys.length) (xs.length+ys.length)) p/\Wh.kY o p j c/\Below w3.heap.size w3 wq) (fun _ _ _ vi _=>(xs.length+ys.length) - (intOf vi).toNat)
 case atStart=>exact ⟨0,o,0,Nat.zero_le _,rfl,rfl,hown,Wh.kY.start o,hbr⟩
 case round=>
 clear hown hbr;obtain ⟨j,p,c,hj,rfl,rfl,hown,hki,hbq⟩:=hrel
 by_cases hjt:j<(xs.length+ys.length)
 ·obtain ⟨t,ht⟩:∃ t,o[j]?=some t:=⟨_,List.getElem?_eq_getElem (by rw [hol.out];exact hjt)⟩
  have hpl:=hki.len.trans hol.out;have hpk:=hki.BZ.trans ht;have hc0:=aF.cellAt hpl.symm hown hpk;have hf0:wr.frozen? ⟨w3.heap.size,j,none⟩=false:=gA hpl hown j;have htb:=hbd.out _ _ ht;have hcr:=hki.c0;have hS2:=DB (hki.step ht htb);have hO:=DB (aF.set (j:=j) hpl.symm hown ((t+c) % 10000) rfl);have t1:Int.tmod (t+c) 10000=(t+c) % 10000:=Int.tmod_eq_emod_of_nonneg (by omega);have t2:Int.tdiv (t+c) 10000=(t+c) / 10000:=Int.tdiv_eq_ediv_of_nonneg (by omega)
  have hrr:0<=(t+c) % 10000/\(t+c) % 10000<10000:=by omega
  have hqq:0<=(t+c) / 10000/\(t+c) / 10000<=1000000000:=by omega
  have Dk:=DB hbq;have LO:w3.heap.size<wr.heap.size:=World.block_lt_of_cell? wr _ hc0;clear hki hpl hpk ht hown;generalize (t+c) / 10000=qq,(t+c) % 10000=r at *;go_wp2
  go_roundw
  case rel=>exact ⟨j+1,_,_,by omega,by go_num,by go_num,hO.out.1,hS2.out,Dk.out.setCell (DF _) _⟩
  case measure=>simp [intOf];omega
 have e:j=(xs.length+ys.length):=by omega
 subst e;have hf:=hki.fin hol.out Je.out hyb.out;have hpl:=hki.len.trans hol.out;have hov:Hid (kc wr w3.heap.size (.slice (some ⟨w3.heap.size,0,none⟩) (xs.length+ys.length) (xs.length+ys.length)) y (xs.length+ys.length+1)):=DB ⟨p,hown,hf.2,hf.1,by rw [hpl];omega⟩;have c1:=F3.out.dZ hbq F3.out.size;have c2:=F4.out.dZ hbq F4.out.size;have c3:=Iq.out.dZ hbq Iq.out.size;have hwr:Below w.heap.size w wr:=hB3.out.trans (hbq.mono hB3.out.size);have d1:=c1.c0;have d3:=c2.c0;clear hki hown hf hpl;rw [show (s1 != s2)=!(s1 == s2) from rfl] at PT;have PT:=DB PT
 go_wp2_with (go_at_call 196;(with_reducible refine (PT.out _ _ _ hov.out).mono ?_);rintro e w5 ⟨vc,rfl,hoc,hbc⟩;obtain ⟨ac,x_,rfl,hmc,Dd⟩:=aF.view hoc;have r5:=c3.keep hbc;have p0:=r5.c0;have p1:=r5.c1;have g0:=r5.f0;have g1:=r5.f1;clear Dd hmc)
 have hr:=cL (w:=w) (w.heap.size+1+1) _ (.bool s) (by omega) c3.size hoc (d_ hwr hbc);generalize (Wh.a_ z.natAbs).length=D2 at *;exact bodyPost_ret (v:=.agg #[s,.slice ac D2 x_]) (by simp [results,Tryz.results189,go_sem, *]) rfl (⟨_,rfl,hr.1,hr.2⟩)
theorem eS (a n:Int) (va:Value) (w:World) (ba:Nat) (hoa:ae w ba va a) (hl1:(Wh.a_ a.natAbs).length<=10000) (hn1:-1000000000000000000<=n) (hn2:n<=1000000000000000000) :
  Calls Tryz.prog 190 #[.agg #[decide (a<0),va],n] w fun e w'=>∃ sl,e=.returned (.agg #[decide (a*n<0),sl])/\ae w' w.heap.size sl (a*n)/\Below w.heap.size w w':=by
 obtain ⟨aa,j_,rfl,-,-⟩:=aF.view hoa;have hnl:(Wh.a_ n.natAbs).length<=10000:=Nat.le_trans (Wh.dL (k:=5) (by omega)) (by decide)
 have PM:=fun W=>kk n W hn1 hn2
 have PA:=fun Ih W bb' (h1:aF W ba (.slice aa (Wh.a_ a.natAbs).length j_) (Wh.a_ a.natAbs)) (h2:ae W bb' Ih n)=>eJ a n (.slice aa (Wh.a_ a.natAbs).length j_) Ih W ba bb' h1 h2 hl1 hnl
 have FV:Hid (∀ W,Below w.heap.size w W->aF W ba (.slice aa (Wh.a_ a.natAbs).length j_) (Wh.a_ a.natAbs)):=DB fun W h=>aF.below hoa h
 clear hoa hnl hn1 hn2;generalize Wh.a_ a.natAbs=xs,a*n=z,decide (a<0)=s1 at *;generalize decide (n<0)=s3,decide (z<0)=s,xs.length=l1 at *;have PM:=DB PM;have PA:=DB PA;have n1:=(ay.new w (.bool s1) (.slice aa l1 j_) 116).alloc (.cells #[false,.slice none 0 0] 116);have n3:=ay.new2 w (.cells #[s1,.slice aa l1 j_] 116) (.bool false) (.slice none 0 0) 116;have Bn:=((DE w.heap.size w).alloc (DF _) (.cells #[s1,.slice aa l1 j_] 116)).alloc (by rw [DC];omega) (.cells #[false,.slice none 0 0] 116);generalize hw3:(w.alloc (.cells #[s1,.slice aa l1 j_] 116)).alloc (.cells #[false,.slice none 0 0] 116)=w3 at *;have e1:=n1.c0;have e2:=n1.c1;go_enter Tryz.func190,Tryz.ntmps190
 go_wp2
 go_region_held3 (fun W=>W.cell? ⟨w.heap.size,0,none⟩=some (.bool s1)/\W.cell? ⟨w.heap.size,1,none⟩=some (.slice aa l1 j_)) (first | (refine ⟨?_,?_⟩ <;> (first | (with_reducible exact aE (by assumption) (by assumption)) | (with_reducible exact Gr.bJ (by assumption)) | (with_reducible refine Gr.bp (by assumption) ?_;(intro DI;(try simp only [DC,aP,World.heap_drewN,aK] at DI);omega)) | (with_reducible refine Gr.eN (by assumption) ?_ ?_ <;> (intro DI;(try simp only [DC,aP,World.heap_drewN,aK] at DI);omega)) | exact aE (by assumption) (by assumption) | (with_reducible exact bI (by assumption) (by assumption) (by assumption)))) | (go_split_ands;(refine ⟨?_,?_⟩ <;> (first | (with_reducible exact aE (by assumption) (by assumption)) | (with_reducible exact Gr.bJ (by assumption)) | (with_reducible refine Gr.bp (by assumption) ?_;(intro DI;(try simp only [DC,aP,World.heap_drewN,aK] at DI);omega)) | (with_reducible refine Gr.eN (by assumption) ?_ ?_ <;> (intro DI;(try simp only [DC,aP,World.heap_drewN,aK] at DI);omega)) | exact aE (by assumption) (by assumption) | (with_reducible exact bI (by assumption) (by assumption) (by assumption))))) | go_keep) ((first
  | (go_at_call 177;(with_reducible refine (PM.out _).mono ?_);rintro e w4 ⟨v4,rfl,DS,hb4⟩;have B4:=Bn.drew.trans (hb4.mono Bn.size);have r4:=n3.drew.keep hb4;have EX:=aE hb4 (ai e1);have FD:=aE hb4 (ai e2);(have z4:w3.heap.size<=w4.heap.size:=hb4.size))
  | (go_at_call 189;(with_reducible refine (PA.out _ _ _ (FV.out _ B4) DS).mono ?_);rintro e w5 ⟨vc,rfl,hoc,hbc⟩;obtain ⟨ac,x_,rfl,hmc,Dd⟩:=aF.view hoc;have B5:=d_ B4 hbc;have r5:=r4.keep hbc;have c0:=r5.c0;have c1:=r5.c1;have g0:=r5.f0;have g1:=r5.f1;have Gs:=aE hbc EX;have Hk:=aE hbc FD;clear Dd hmc)
  | fail "ARMS"))
 all_goals
  have hr:=cL (w:=w) (w.heap.size+1) _ (.bool s) (by omega) (Nat.lt_of_lt_of_le n3.size z4) hoc B5;generalize (Wh.a_ z.natAbs).length=D2 at *;go_wp2;exact bodyPost_ret (v:=.agg #[s,.slice ac D2 x_]) (by simp [results,Tryz.results190,go_sem, *]) rfl (⟨_,rfl,hr.1,hr.2⟩)
theorem eo (a n:Int) (va:Value) (w:World) (ba:Nat) (hoa:ae w ba va a) (hl:(Wh.a_ a.natAbs).length<=9000) (hn1:1<=n) (hn2:n<=1000000000000) :
  Calls Tryz.prog 194 #[.agg #[decide (a<0),va],n] w fun e w'=>∃ sl,e=.returned (.tuple #[.agg #[decide (a / n<0),sl],(a % n:Int)])/\ae w' w.heap.size sl (a / n)/\Below w.heap.size w w':=by
 obtain ⟨aa,j_,rfl,hma,hva⟩:=aF.seen hoa;have hva:=DB hva;have hla:=DB (Wh.an a.natAbs);have hvl:=DB (Wh.bE a.natAbs)
 have hq0:=fun s=>Wh.sV (a:=a) (n:=n) s (by omega)
 have PT:=fun s W v base ho=>gt (Wh.Dv s ((a.natAbs:Int) / n)) ((a.natAbs:Int) / n) (Wh.a_ a.natAbs).length s v W base ho (by omega) rfl
 have d0:=fun h=>Wh.wF (a:=a) (n:=n) h
 have d1:=fun h h'=>Wh.wD (a:=a) (n:=n) (by omega) h h'
 have d2:=fun h h'=>Wh.wE (a:=a) (n:=n) (by omega) h h'
 have d0:=DB d0;have d1:=DB d1;have d2:=DB d2;clear hma hoa
 obtain ⟨s1,hs1⟩:∃ s,decide (a<0)=s:=⟨_,rfl⟩
 rw [hs1];have hs1:=DB hs1;generalize a % n=zr,a / n=z at *;generalize hab:(a.natAbs:Int)=A at *;have D4:Hid (Wh.val (Wh.a_ a.natAbs)=A):=hvl;clear hvl hab;generalize Wh.a_ a.natAbs=xs at *
 obtain ⟨s,hsd⟩:∃ s,Hid (decide (z<0)=s):=⟨_,DB rfl⟩
 rw [hsd.out];have b1:=(ay.new w (.bool s1) (.slice aa xs.length j_) 116).alloc (.cells #[false,.slice none 0 0] 116);have b2:=ay.new2 w (.cells #[s1,.slice aa xs.length j_] 116) (.bool false) (.slice none 0 0) 116;have hB:=((DE w.heap.size w).alloc (DF _) (.cells #[s1,.slice aa xs.length j_] 116)).alloc (by rw [DC];omega) (.cells #[false,.slice none 0 0] 116);generalize hw3:(w.alloc (.cells #[s1,.slice aa xs.length j_] 116)).alloc (.cells #[false,.slice none 0 0] 116)=w3 at *;obtain ⟨w4,hrun,hown1,hg1⟩:=me w3 xs.length (by omega);have hb4:Below w3.heap.size w3 w4:=ck hg1 (DF _) (fun k hk=>by cases hk);have hB3:=DB hB;have e2:=b1.c1;have F3:=DB b1;have F4:=DB b2;have f2_:=(b1.keep hb4).c1;clear hg1 b2 hB;go_enter Tryz.func194,Tryz.ntmps194
 go_wp2;clear e2 b1 f2_
 go_loopw [7,8] (fun vr vi wr=>∃ (k:Nat) (q:List Int) (r:Int),k<=xs.length/\vi=.int .i64 ((k:Int) - 1)/\vr=.int .i64 r/\aF wr w3.heap.size (.slice (some ⟨w3.heap.size,0,none⟩) xs.length xs.length) q/\Wh.kX xs q n k r/\Below w3.heap.size w3 wr) (fun _ vi _=>(intOf vi+1).toNat)
 case atStart=>exact ⟨xs.length,List.replicate xs.length 0,0,DF _,rfl,rfl,hown1,Wh.kX.start (by omega) List.length_replicate,hb4⟩
 case round=>
 clear hown1 hb4;obtain ⟨k,q,r,hk,rfl,rfl,hown,hdi,hbr⟩:=hrel;have c1:=F3.out.dZ hbr F3.out.size;have c2:=F4.out.dZ hbr F4.out.size;have hwr:Below w.heap.size w wr:=hB3.out.trans (hbr.mono hB3.out.size)
 cases k with
 | zero=>
  have hf:=hdi.fin;rw [D4.out] at hf;obtain ⟨hq1,rfl,hq3⟩:=hf;have hov:Hid (kc wr w3.heap.size (.slice (some ⟨w3.heap.size,0,none⟩) xs.length xs.length) (A / n) xs.length):=DB ⟨q,hown,hq3,hq1,by rw [hdi.len];exact DF _⟩;have hd0:=c1.c0;clear hdi hown hq1 hq3;cases s1
  ·have hna:¬ a<0:=by have:=hs1.out;simpa using this
   obtain ⟨hz1,hz2⟩:=d0.out (by omega);have PT:=PT false;rw [hz1] at PT;rw [hsd.out] at PT;have PT:=DB PT;rw [hz2]
   go_wp2_with (go_at_call 196;(with_reducible refine (PT.out _ _ _ hov.out).mono ?_);rintro e w5 ⟨vc,rfl,hoc,hbc⟩;obtain ⟨ac,x_,rfl,hmc,Dd⟩:=aF.view hoc;have r5:=c2.keep hbc;have b5:=c1.keep hbc;have p0:=r5.c0;have p1:=r5.c1;have g0:=r5.f0;have g1:=r5.f1;have z5:=r5.size;have y5:=b5.size;have x0:=b5.c0;clear Dd hmc)
   have hr0:=cL (w:=w) (w2:=w5) (w.heap.size+1) _ (.bool s) (by omega) c2.size hoc (d_ hwr hbc);have hr1:=aF.alloc hr0.1 (.cells #[s,.slice ac (Wh.a_ z.natAbs).length x_] 116);have hr2:=hr0.2.alloc hr0.2.size (.cells #[s,.slice ac (Wh.a_ z.natAbs).length x_] 116);generalize (Wh.a_ z.natAbs).length=D2 at *;exact bodyPost_ret (v:=.tuple #[.agg #[s,.slice ac D2 x_],zr]) (by simp [results,Tryz.results194,go_sem, *]) rfl (⟨_,rfl,hr1,hr2⟩)
  have hna:a<0:=by have:=hs1.out;simpa using this
  by_cases hrz:A % n=0
  ·skip
   obtain ⟨hz1,hz2⟩:=d1.out hna hrz;have PT:=PT true;rw [hz1] at PT;rw [hsd.out] at PT;have PT:=DB PT;rw [hz2] at hrz ⊢
   go_wp2_with (go_at_call 196;(with_reducible refine (PT.out _ _ _ hov.out).mono ?_);rintro e w5 ⟨vc,rfl,hoc,hbc⟩;obtain ⟨ac,x_,rfl,hmc,Dd⟩:=aF.view hoc;have r5:=c2.keep hbc;have b5:=c1.keep hbc;have p0:=r5.c0;have p1:=r5.c1;have g0:=r5.f0;have g1:=r5.f1;have z5:=r5.size;have y5:=b5.size;have x0:=b5.c0;clear Dd hmc)
   have hr0:=cL (w:=w) (w2:=w5) (w.heap.size+1) _ (.bool s) (by omega) c2.size hoc (d_ hwr hbc);have hr1:=aF.alloc hr0.1 (.cells #[s,.slice ac (Wh.a_ z.natAbs).length x_] 116);have hr2:=hr0.2.alloc hr0.2.size (.cells #[s,.slice ac (Wh.a_ z.natAbs).length x_] 116);generalize (Wh.a_ z.natAbs).length=D2 at *;exact bodyPost_ret (v:=.tuple #[.agg #[s,.slice ac D2 x_],zr]) (by simp [results,Tryz.results194,go_sem, *]) rfl (⟨_,rfl,hr1,hr2⟩)
  obtain ⟨hz1,hz2⟩:=d2.out hna hrz;have PT:=PT true;have hq1:=hq0 true
  have KE:0<A % n:=by have:=Int.emod_nonneg A (show n≠0 by omega);omega
  have hrn:A % n<n:=Int.emod_lt_of_pos _ (by omega);generalize A % n=rr,Wh.Dv true (A / n)=y0 at *
  have PW:=fun W=>kk 1 W (by omega) (by omega)
  have PA:=fun va vb W ba bb (h1:aF W ba va (Wh.a_ y0.natAbs)) (h2:aF W bb vb (Wh.a_ (1:Int).natAbs))=>nL y0 1 va vb W ba bb h1 h2 (by omega) (by have:=Wh.ju;rw [Int.natAbs_neg] at this;omega)
  rw [decide_eq_false (show ¬ (1:Int)<0 by decide)] at PW PA;rw [show y0 - 1=z by omega,hsd.out] at PA;have QQ:=KE
  obtain ⟨s0,hs0⟩:∃ s0,decide (y0<0)=s0:=⟨_,rfl⟩
  rw [hs0] at PT PA;have PT:=DB PT;have PW:=DB PW;have PA:=DB PA;replace hz2:=DB hz2;clear hz1 hs0 hq0 hq1 d0 d1 d2 hrz
  go_wp2_with (go_at_call 196;(with_reducible refine (PT.out _ _ _ hov.out).mono ?_);rintro e w5 ⟨vc,rfl,hoc,hbc⟩;obtain ⟨ac,x_,rfl,hmc,Dd⟩:=aF.view hoc;have r5:=c2.keep hbc;have b5:=c1.keep hbc;have p0:=r5.c0;have p1:=r5.c1;have g0:=r5.f0;have g1:=r5.f1;have z5:=r5.size;have y5:=b5.size;have x0:=b5.c0;clear Dd hmc)
  have bt:=ay.new w5 (.bool s0) (.slice ac (Wh.a_ y0.natAbs).length x_) 116;have r6:=r5.alloc (.cells #[s0,.slice ac (Wh.a_ y0.natAbs).length x_] 116);have JQ:=aF.alloc hoc (.cells #[s0,.slice ac (Wh.a_ y0.natAbs).length x_] 116);have B6:=(d_ hwr hbc).alloc (by have:=(d_ hwr hbc).size;omega) (.cells #[s0,.slice ac (Wh.a_ y0.natAbs).length x_] 116);have u0:=bt.c0;have u1:=bt.c1;have zz:w5.heap.size<(w5.alloc (.cells #[s0,.slice ac (Wh.a_ y0.natAbs).length x_] 116)).heap.size:=bt.size;generalize (Wh.a_ y0.natAbs).length=l0,w5.alloc (.cells #[s0,.slice ac (Wh.a_ y0.natAbs).length x_] 116)=w6 at *;clear p0 p1 g0 g1 x0
  go_region_held3 (fun W=>W.cell? ⟨w5.heap.size,0,none⟩=some (.bool s0)/\W.cell? ⟨w5.heap.size,1,none⟩=some (.slice ac l0 x_)) (first | (refine ⟨?_,?_⟩ <;> (first | (with_reducible exact aE (by assumption) (by assumption)) | (with_reducible exact Gr.bJ (by assumption)) | (with_reducible refine Gr.bp (by assumption) ?_;(intro DI;(try simp only [DC,aP,World.heap_drewN,aK] at DI);omega)) | (with_reducible refine Gr.eN (by assumption) ?_ ?_ <;> (intro DI;(try simp only [DC,aP,World.heap_drewN,aK] at DI);omega)) | exact aE (by assumption) (by assumption) | (with_reducible exact bI (by assumption) (by assumption) (by assumption)))) | (go_split_ands;(refine ⟨?_,?_⟩ <;> (first | (with_reducible exact aE (by assumption) (by assumption)) | (with_reducible exact Gr.bJ (by assumption)) | (with_reducible refine Gr.bp (by assumption) ?_;(intro DI;(try simp only [DC,aP,World.heap_drewN,aK] at DI);omega)) | (with_reducible refine Gr.eN (by assumption) ?_ ?_ <;> (intro DI;(try simp only [DC,aP,World.heap_drewN,aK] at DI);omega)) | exact aE (by assumption) (by assumption) | (with_reducible exact bI (by assumption) (by assumption) (by assumption))))) | go_keep) ((first
   | (go_at_call 177;(with_reducible refine (PW.out _).mono ?_);rintro e w7 ⟨v7,rfl,Fk,DL⟩;(have JP:aF _ _ _ (Wh.a_ (1:Int).natAbs):=Fk);have Ii:=aE DL (ai u0);have EX:=aE DL (ai u1);have r7:=r6.drew.keep DL;have B7:=B6.drew.trans (DL.mono B6.size);have JR:=aF.below (aF.below JQ (DE _ _).drew) DL;(have z7:w6.heap.size<=w7.heap.size:=DL.size))
   | (go_at_call 202;(with_reducible refine (PA.out _ _ _ _ _ JR JP).mono ?_);rintro e w8 ⟨v8,rfl,Em,DN⟩;obtain ⟨a8,I5,rfl,LA,Qs⟩:=aF.view Em;have y0_:=aE DN Ii;have Gs:=aE DN EX;have r8:=r7.keep DN;have p0:=r8.c0;have p1:=r8.c1;have g0:=r8.f0;have g1:=r8.f1;have B8:=d_ B7 DN;clear Qs LA)
   | fail "ARMS"))
  all_goals
   have hr:=cL (w:=w) (w.heap.size+1) _ (.bool s) (by omega) r7.size Em B8;generalize (Wh.a_ z.natAbs).length=D2 at *;go_wp2
   have hwz:IntKind.i64.wrap (n - rr)=n - rr:=by
    rw [IntKind.wrap_i64];omega
   exact bodyPost_ret (v:=.tuple #[.agg #[s,.slice a8 D2 I5],(n - rr:Int)]) (by simp [results,Tryz.results194,go_sem, *]) rfl (⟨_,by rw [hz2.out],hr.1,hr.2⟩)
 | succ j=>
 obtain ⟨ga,x,ea,hga,hxa,hca⟩:=hva.out j (by omega);subst ea;have hca:=aE hwr hca;have hr0:=hdi.r0;have hlx:=hla.out x (List.mem_of_getElem? hxa.out);unfold Wh.lim at hlx;have hS:=hdi.step hla.out hxa.out hn2;have hy:=hS.1;have t1:Int.tdiv (r*10000+x) n=(r*10000+x) / n:=Int.tdiv_eq_ediv_of_nonneg hy.1;have t2:Int.tmod (r*10000+x) n=(r*10000+x) % n:=Int.tmod_eq_emod_of_nonneg hy.1;have hpl:=hdi.len;have hqk:q[j]?=some q[j]:=List.getElem?_eq_getElem (by omega);have hc0:=aF.cellAt hpl.symm hown hqk;have hf0:wr.frozen? ⟨w3.heap.size,j,none⟩=false:=gA hpl hown j;have hO:=DB (aF.set (j:=j) hpl.symm hown ((r*10000+x) / n) rfl);have hS2:=DB hS.2;have Dk:=DB hbr;have f2:=c1.c1;have LO:w3.heap.size<wr.heap.size:=World.block_lt_of_cell? wr _ hc0
 have hdb:-1000000000000<=(r*10000+x) / n/\(r*10000+x) / n<=10000000000000000:=by
  have h1:=Int.ediv_nonneg hy.1 (show 0<=n by omega);have h2:=Int.ediv_le_self n hy.1;omega
 have hmb:0<=(r*10000+x) % n/\(r*10000+x) % n<n:=⟨Int.emod_nonneg _ (by omega),Int.emod_lt_of_pos _ (by omega)⟩
 generalize (r*10000+x) % n=yr,(r*10000+x) / n=yq,q[j]=qj at *;clear hS hdi hpl hqk hown c1 c2 hxa;go_wp2
 go_roundw
 case rel=>exact ⟨j,_,_,by omega,by go_num,by go_num,hO.out.1,hS2.out,Dk.out.setCell (DF _) _⟩
 case measure=>first | (simp [intOf];done) | (simp [intOf];omega)
namespace Wh
def bl (n:Nat):Nat:=if n=0 then 0 else Nat.log2 n+1
theorem yX:bl 0=0:=rfl
theorem nO {n:Nat} (h:n≠0):bl n=bl (n / 2)+1:=by
 unfold bl;rw [if_neg h,Nat.log2_def]
 by_cases h2:2<=n
 ·rw [if_pos h2,if_neg (by omega)]
 rw [if_neg h2,if_pos (by omega)]
theorem kq:∀ (k n:Nat),2 ^ k<=n->bl n=bl (n / 2 ^ k)+k
 | 0,n,_=>by simp
 | k+1,n,h=>by
  have hp:0<2 ^ k:=Nat.pow_pos (by decide)
  have h1:2 ^ k<=n / 2:=by
   rw [Nat.pow_succ] at h;exact (Nat.le_div_iff_mul_le (by decide)).2 h
  rw [nO (n:=n) (by rw [Nat.pow_succ] at h;omega),kq k (n / 2) h1,Nat.div_div_eq_div_mul,Nat.pow_succ,Nat.mul_comm 2];omega
theorem vO (n:Nat) (h:n<18446744073709551616):Lib.bitLen n=bl n:=by
 induction n using Nat.strongRecOn with
 | ind n ih=>
 by_cases h0:n=0
 ·subst h0;rfl
 rw [Lib.bitLen_half n h0 h,nO h0,ih (n / 2) (by omega) (by omega)];omega
theorem qm {l:List Int} (h:bD l) (k:Nat):val (l.drop k)<=val l:=by
 have e:=gJ (l.take k) (l.drop k);rw [List.take_append_drop] at e;have h1:=dB (fd h k);have h2:=dB (jU h k);have h3:=Int.mul_le_mul_of_nonneg_right (show (1:Int)<=10000 ^ (l.take k).length by have:=pow_pos (l.take k).length;omega) h2;omega
theorem sS {n k:Nat} (h:k<(a_ n).length):10000 ^ k<=n:=by
 by_cases h':n<10000 ^ k
 ·have:=dL h';omega
 omega
theorem jN {n k:Nat} (h:(a_ n).length<=k):(n:Int)<10000 ^ k:=by
 have h1:=fU (an n);rw [bE] at h1;have:=jf h;omega
end Wh
theorem aF.past {w:World} {base c:Nat} {sl:Value} {xs:List Int} (h:aF w base sl xs) (hc:c<base) (u v:Value):aF ((w.setCell ⟨c,0,none⟩ u).setCell ⟨c,1,none⟩ v) base sl xs:=by
 refine World.ownsRow.kept h (cO w c u v) ?_
 cases hs:sl.ownBlock with
 | none=>exact Or.inl rfl
 | some g=>
 right
 intro e
 injection e with e
 have:=(aF.lt h g hs).1;omega
theorem jl (a:Int) (sl:Value) (w:World) (base:Nat) (ho:ae w base sl a) (hl:(Wh.a_ a.natAbs).length<=1000000) :
  Calls Tryz.prog 184 #[.agg #[decide (a<0),sl]] w fun e w'=>∃ sl',e=.returned (.agg #[false,sl'])/\aF w' w.heap.size sl' (Wh.a_ a.natAbs)/\Below w.heap.size w w':=by
 refine (qy a sl w base ho hl).mono fun e w' ⟨sl',h1,h2,h3⟩=>⟨sl',?_,?_,h3⟩
 ·rw [h1,decide_eq_false (show ¬ ((a.natAbs:Int)<0) by omega)]
 unfold ae at h2
 rwa [Int.natAbs_natCast] at h2
theorem jv (m n:Nat) (va:Value) (w:World) (ba:Nat) (hoa:aF w ba va (Wh.a_ m)) (hl:(Wh.a_ m).length<=9000) (hn1:1<=n) (hn2:n<=1000000000000) :
  Calls Tryz.prog 181 #[.agg #[false,va],.int .i64 (n:Int)] w fun e w'=>∃ sl,e=.returned (.tuple #[.agg #[false,sl],.int .i64 ((m % n:Nat):Int)])/\aF w' w.heap.size sl (Wh.a_ (m / n))/\Below w.heap.size w w':=by
 have h:=iS (m:Int) (n:Int) va w ba (by unfold ae;rwa [Int.natAbs_natCast]) (by rwa [Int.natAbs_natCast]) (by omega) (by omega);rw [decide_eq_false (show ¬ ((m:Int)<0) by omega)] at h
 refine h.mono fun e w' ⟨sl',h1,h2,h3⟩=>⟨sl',?_,?_,h3⟩
 ·rw [h1,decide_eq_false (show ¬ ((m:Int) / (n:Int)<0) by have:=Int.ediv_nonneg (a:=(m:Int)) (b:=(n:Int)) (by omega) (by omega);omega),←Int.natCast_emod]
 unfold ae at h2
 rwa [←Int.natCast_ediv,Int.natAbs_natCast] at h2
theorem pS (a:Int) (va:Value) (w:World) (ba:Nat) (hoa:ae w ba va a) (hl:(Wh.a_ a.natAbs).length<=9000) (hbl:Wh.bl a.natAbs<=1000000) :
  Calls Tryz.prog 169 #[.agg #[decide (a<0),va]] w fun e w'=>e=.returned (.int .i64 (Wh.bl a.natAbs:Nat))/\Below w.heap.size w w':=by
 obtain ⟨aa,j_,rfl,-,-⟩:=aF.view hoa
 have PA:=fun W (h:aF W ba (.slice aa (Wh.a_ a.natAbs).length j_) (Wh.a_ a.natAbs))=>jl a (.slice aa (Wh.a_ a.natAbs).length j_) W ba h (by omega)
 have PD:=fun (m:Nat) (hm:(Wh.a_ m).length<=9000) va W b (h:aF W b va (Wh.a_ m))=>jv m 67108864 va W b h hm (by omega) (by omega)
 rw [show ((67108864:Nat):Int)=67108864 from rfl] at PD;replace PD:=DB PD;generalize decide (a<0)=s1 at *;replace hoa:=DB (show aF _ _ _ _ from hoa);generalize a.natAbs=N at *;have b1:=ay.new w (.bool s1) (.slice aa (Wh.a_ N).length j_) 116;have hB:=(DE w.heap.size w).alloc (DF _) (.cells #[s1,.slice aa (Wh.a_ N).length j_] 116);have ho1:=aF.alloc hoa.out (.cells #[s1,.slice aa (Wh.a_ N).length j_] 116);generalize hw3:w.alloc (.cells #[s1,.slice aa (Wh.a_ N).length j_] 116)=w3 at *;replace PA:=DB PA;have e1:=b1.c0;have e2:=b1.c1;have hz3:=b1.size;go_enter Tryz.func169,Tryz.ntmps169
 go_wp2_with (go_at_call 184;(with_reducible refine (PA.out _ ho1).mono ?_);rintro e w4 ⟨v4,rfl,DS,hb4⟩;obtain ⟨a4,cap4,rfl,KD,hv4⟩:=aF.view DS;have r4:=b1.keep hb4;have c0:=r4.c0;have c1:=r4.c1;have g0:=r4.f0;have g1:=r4.f1;clear hv4 KD)
 have rs:=r4.store (.bool false) (.slice a4 (Wh.a_ N).length cap4);have os:=aF.past (aF.base (base':=w.heap.size+1) DS (by omega)) (Nat.lt_succ_self _) (.bool false) (.slice a4 (Wh.a_ N).length cap4);have Bs:=((d_ hB hb4).setCell (p:=⟨w.heap.size,0,none⟩) (DF _) (.bool false)).setCell (p:=⟨w.heap.size,1,none⟩) (DF _) (.slice a4 (Wh.a_ N).length cap4);clear r4 c0 c1 g0 g1 e1 e2 DS hb4 b1 hB ho1
 go_loopw [3] (fun vb wr=>∃ (m c:Nat) (ax:Option Addr) (cx:Nat),vb=.int .i64 c/\c+Wh.bl m=Wh.bl N/\(Wh.a_ m).length<=(Wh.a_ N).length/\Hid (ay wr w.heap.size (.bool false) (.slice ax (Wh.a_ m).length cx))/\aF wr (w.heap.size+1) (.slice ax (Wh.a_ m).length cx) (Wh.a_ m)/\Below w.heap.size w wr) (fun vb _=>Wh.bl N - (intOf vb).toNat)
 case atStart=>exact ⟨N,0,a4,cap4,rfl,Nat.zero_add _,DF _,DB rs,os,Bs⟩
 case round=>
 clear rs os Bs;obtain ⟨m,c,ax,cx,rfl,hc,hml,Dr,hown,hbr⟩:=hrel;have c0:=Dr.out.c0;have c1:=Dr.out.c1;have Fl:=Dr.out.size
 by_cases h2:2<(Wh.a_ m).length
 ·have hbig:=Wh.sS h2
  have hsh:=Wh.kq 26 m (by omega);rw [show 2 ^ 26=67108864 from rfl] at hsh;have QH:=Wh.eM (Nat.div_le_self m 67108864);have PX:=PD.out m (by omega);have PX:=DB PX;generalize m % 67108864=rr,m / 67108864=m2 at *;have hown:=DB hown;clear hbig;generalize hlm:(Wh.a_ m).length=lm at *
  go_wp2_with (go_at_call 181;(with_reducible refine (PX.out _ _ _ hown.out).mono ?_);rintro e w5 ⟨v5,rfl,Dw,hb5⟩;obtain ⟨a5,cap5,rfl,H6,hv5⟩:=aF.view Dw;have r5:=Dr.out.keep hb5;have d0:=r5.c0;have d1:=r5.c1;have g0:=r5.f0;have g1:=r5.f1;clear hv5 H6)
  go_roundw
  case rel=>exact ⟨m2,c+26,a5,cap5,by go_num,by omega,by omega,DB (r5.store _ _),aF.past (aF.base Dw (by omega)) (Nat.lt_succ_self _) _ _,((d_ hbr hb5).setCell (DF _) _).setCell (DF _) _⟩
  case measure=>simp [intOf];omega
 have hsm:=Wh.jN (n:=m) (k:=2) (by omega)
 have LA:(m:Int)<=99999999:=by
  have:(10000:Int) ^ 2=100000000:=by decide
  omega
 have hld:=DB (Wh.an m);have hvd:=DB (Wh.bE m)
 have PB:=fun W=>Tryz.bits_Len (m:Int) W (by omega) (by omega)
 rw [Int.toNat_natCast,Wh.vO m (by omega)] at PB;have hc2:=DB hc
 have EY:Wh.bl m<=Wh.bl N:=by omega
 obtain ⟨ad,capd,ed,hmd,hvs⟩:=aF.seen hown
 injection ed with e1 e2 e3
 subst e1 e3;replace hvs:=DB hvs;clear hsm hml hown PD hc hmd e2
 have hb0:Hid (m=0->Wh.bl m=0):=DB fun h=>by rw [h];rfl
 generalize Wh.a_ m=ds,Wh.bl m=bm at *;replace PB:=DB PB
 have hln:ds.length<=2:=by omega
 clear h2;go_wp2
 go_loopw [4,5] (fun vn vi wq=>∃ (k:Nat),k<=ds.length/\vi=.int .i64 ((k:Int) - 1)/\vn=.int .i64 (Wh.val (ds.drop k))/\Below wr.heap.size wr wq) (fun _ vi _=>(intOf vi+1).toNat)
 case atStart=>exact ⟨ds.length,DF _,rfl,by rw [List.drop_length];rfl,DE _ _⟩
 case round=>
 obtain ⟨k,hk,rfl,rfl,hbq⟩:=hrel;have f1:=aE hbq c1;have hdn:=Wh.dB (Wh.jU hld.out k);have hdl:=Wh.qm hld.out k;rw [hvd.out] at hdl
 cases k with
 | zero=>
  have hv0:Wh.val (ds.drop 0)=m:=by rw [List.drop_zero];exact hvd.out
  rw [hv0];clear hv0 hdn hdl
  by_cases hm0:m=0
  ·have hcn:Hid (Wh.bl N=c):=DB (by have:=hc2.out;have:=hb0.out hm0;omega)
   subst hm0;go_wp2;go_ret;exact ⟨by rw [hcn.out] <;> rfl,d_ hbr hbq⟩
  have hcn:Hid (((Wh.bl N:Nat):Int)=(c:Int)+bm):=DB (by have:=hc2.out;omega)
  have hcb:c<=1000000:=by have:=hc2.out;omega
  have hm1:0<(m:Int):=by omega
  go_wp2_with (go_at_call 171;(refine (PB.out _).mono ?_);rintro e w6 ⟨rfl,rfl⟩)
  go_ret;exact ⟨by rw [hcn.out] <;> rfl,d_ hbr hbq⟩
 | succ j=>
 obtain ⟨gx,x,ex,hgx,MV,hcx⟩:=hvs.out j (by omega);subst ex;have hcx:=aE hbq hcx;have hvj:=Wh.lr MV.out;have hlx:=hld.out x (List.mem_of_getElem? MV.out);unfold Wh.lim at hlx;have Qt:=DB (show Wh.val (ds.drop j)=Wh.val (ds.drop (j+1))*10000+x by rw [hvj];omega)
 have hbv:Wh.val (ds.drop (j+1))<=100000000:=by omega
 clear hvj MV hdl;generalize Wh.val (ds.drop (j+1))=v1 at *;go_wp2
 go_roundw
 case rel=>exact ⟨j,by omega,by go_num,by rw [Qt.out],hbq⟩
 case measure=>first | (simp [intOf];done) | (simp [intOf];omega)
theorem td (N:Nat) (v:Value) (w:World) (base:Nat) (hown:aF w base v (Wh.a_ N)) (hl:(Wh.a_ N).length<=1000000) :
  Calls Tryz.prog 196 #[false,v] w fun e w'=>∃ sl,e=.returned (.agg #[false,sl])/\aF w' w.heap.size sl (Wh.a_ N)/\Below w.heap.size w w':=by
 have h:=gu (N:Int) false (Wh.a_ N) v w base hown (Wh.an N) hl (by rw [Wh.bE];rfl)
 refine h.mono fun e w' ⟨sl',h1,h2,h3⟩=>⟨sl',?_,?_,h3⟩
 ·rw [h1,decide_eq_false (show ¬ ((N:Int)<0) by omega)]
 unfold ae at h2
 rwa [Int.natAbs_natCast] at h2
theorem th (m n:Nat) (va:Value) (w:World) (ba:Nat) (hoa:aF w ba va (Wh.a_ m)) (hl:(Wh.a_ m).length<=9000) (hn1:1<=n) (hn2:n<=1000000000000) :
  Calls Tryz.prog 194 #[.agg #[false,va],.int .i64 (n:Int)] w fun e w'=>∃ sl,e=.returned (.tuple #[.agg #[false,sl],.int .i64 ((m % n:Nat):Int)])/\aF w' w.heap.size sl (Wh.a_ (m / n))/\Below w.heap.size w w':=by
 have h:=eo (m:Int) (n:Int) va w ba (by unfold ae;rwa [Int.natAbs_natCast]) (by rwa [Int.natAbs_natCast]) (by omega) (by omega);rw [decide_eq_false (show ¬ ((m:Int)<0) by omega)] at h
 refine h.mono fun e w' ⟨sl',h1,h2,h3⟩=>⟨sl',?_,?_,h3⟩
 ·rw [h1,decide_eq_false (show ¬ ((m:Int) / (n:Int)<0) by have:=Int.ediv_nonneg (a:=(m:Int)) (b:=(n:Int)) (by omega) (by omega);omega),←Int.natCast_emod]
 unfold ae at h2
 rwa [←Int.natCast_ediv,Int.natAbs_natCast] at h2
theorem Wh.xM {m:Nat} (h:(a_ m).length<=1):nth (a_ m) 0=m:=by
 have hv:=bE m
 cases hd:a_ m with
 | nil=>rw [hd] at hv;rw [←hv];rfl
 | cons x l=>
 rw [hd] at h hv
 cases l with
 | nil=>rw [←hv];show x=x+10000*0;omega
 | cons y t=>simp at h
theorem kj (a:Int) (va:Value) (w:World) (ba:Nat) (hoa:ae w ba va a) (hl:(Wh.a_ a.natAbs).length<=9000) (hbl:Wh.bl a.natAbs<=1000000) :
  Calls Tryz.prog 175 #[.agg #[decide (a<0),va]] w fun e w'=>e=.returned (.int .i64 (Wh.bl a.natAbs:Nat))/\Below w.heap.size w w':=by
 obtain ⟨aa,j_,rfl,-,-⟩:=aF.view hoa
 have PA:=fun W (h:aF W ba (.slice aa (Wh.a_ a.natAbs).length j_) (Wh.a_ a.natAbs))=>td a.natAbs (.slice aa (Wh.a_ a.natAbs).length j_) W ba h (by omega)
 have PD:=fun (m:Nat) (hm:(Wh.a_ m).length<=9000) va W b (h:aF W b va (Wh.a_ m))=>th m 4096 va W b h hm (by omega) (by omega)
 rw [show ((4096:Nat):Int)=4096 from rfl] at PD;replace PD:=DB PD
 have PL:=fun (m:Nat) va W b (h:aF W b va (Wh.a_ m))=>gS (Wh.a_ m) va 0 W b h
 rw [show ((0:Nat):Int)=0 from rfl] at PL;replace PL:=DB PL;generalize decide (a<0)=s1 at *;replace hoa:=DB (show aF _ _ _ _ from hoa);generalize a.natAbs=N at *;have b1:=ay.new w (.bool s1) (.slice aa (Wh.a_ N).length j_) 116;have hB:=(DE w.heap.size w).alloc (DF _) (.cells #[s1,.slice aa (Wh.a_ N).length j_] 116);have ho1:=aF.alloc hoa.out (.cells #[s1,.slice aa (Wh.a_ N).length j_] 116);generalize hw3:w.alloc (.cells #[s1,.slice aa (Wh.a_ N).length j_] 116)=w3 at *;replace PA:=DB PA;have e2:=b1.c1;have hz3:=b1.size;go_enter Tryz.func175,Tryz.ntmps175
 go_wp2_with (go_at_call 196;(with_reducible refine (PA.out _ ho1).mono ?_);rintro e w4 ⟨v4,rfl,DS,hb4⟩;obtain ⟨a4,cap4,rfl,KD,hv4⟩:=aF.view DS;clear hv4 KD)
 have rs:=ay.new w4 (.bool false) (.slice a4 (Wh.a_ N).length cap4) 116;have os:=aF.alloc DS (.cells #[false,.slice a4 (Wh.a_ N).length cap4] 116);have B4:=d_ hB hb4;have Bs:=B4.alloc B4.size (.cells #[false,.slice a4 (Wh.a_ N).length cap4] 116);have D7:=B4.size;have LD:=DB DS;have hz34:=hb4.size;clear e2 DS hb4 b1 hB ho1 B4
 have ne:(Value.slice a4 (Wh.a_ N).length cap4).ownBlock≠some w4.heap.size:=fun e=>by
  have:=(aF.lt LD.out _ e).2;omega
 clear LD
 go_loopw [3] (fun vb wr=>∃ (m c:Nat) (ax:Option Addr) (cx:Nat),vb=.int .i64 c/\c+Wh.bl m=Wh.bl N/\(Wh.a_ m).length<=(Wh.a_ N).length/\Hid (ay wr w4.heap.size (.bool false) (.slice ax (Wh.a_ m).length cx))/\Hid ((Value.slice ax (Wh.a_ m).length cx).ownBlock≠some w4.heap.size)/\aF wr w3.heap.size (.slice ax (Wh.a_ m).length cx) (Wh.a_ m)/\Below w.heap.size w wr) (fun vb _=>Wh.bl N - (intOf vb).toNat)
 case atStart=>exact ⟨N,0,a4,cap4,rfl,Nat.zero_add _,DF _,DB rs,DB ne,os,Bs⟩
 case round=>
 clear rs os Bs ne;obtain ⟨m,c,ax,cx,rfl,hc,hml,Dr,hne,hown,hbr⟩:=hrel;have c0:=Dr.out.c0;have c1:=Dr.out.c1;have Fl:=Dr.out.size
 by_cases h2:1<(Wh.a_ m).length
 ·have hbig:=Wh.sS h2
  have hsh:=Wh.kq 12 m (by omega);rw [show 2 ^ 12=4096 from rfl] at hsh;have QH:=Wh.eM (Nat.div_le_self m 4096);have PX:=PD.out m (by omega);replace PX:=DB PX;generalize m % 4096=rr,m / 4096=m2 at *;replace hown:=DB hown;clear hbig;generalize hlm:(Wh.a_ m).length=lm at *
  go_wp2_with (go_at_call 194;(with_reducible refine (PX.out _ _ _ hown.out).mono ?_);rintro e w5 ⟨v5,rfl,Dw,hb5⟩;obtain ⟨a5,cap5,rfl,H6,hv5⟩:=aF.view Dw;have r5:=Dr.out.keep hb5;have d0:=r5.c0;have d1:=r5.c1;have g0:=r5.f0;have g1:=r5.f1;clear hv5 H6)
  have ne5:(Value.slice a5 (Wh.a_ m2).length cap5).ownBlock≠some w4.heap.size:=fun e=>by
   have:=(aF.lt Dw _ e).1;omega
  have hkp:=fun u v=>World.ownsRow.kept (aF.base (base':=w3.heap.size) Dw (by omega)) (cO w5 w4.heap.size u v) (Or.inr ne5)
  go_roundw
  case rel=>exact ⟨m2,c+12,a5,cap5,by go_num,by omega,by omega,DB (r5.store _ _),DB ne5,hkp _ _,((d_ hbr hb5).setCell (by omega) _).setCell (by omega) _⟩
  case measure=>simp [intOf];omega
 have hsm:=Wh.jN (n:=m) (k:=1) (by omega)
 have LA:(m:Int)<=9999:=by
  have:(10000:Int) ^ 1=10000:=by decide
  omega
 have PX:=PL.out m;rw [Wh.xM (by omega)] at PX;replace PX:=DB PX;have hc2:=DB hc;replace hown:=DB hown
 have hcb:c<=Wh.bl N:=by omega
 clear hsm hml PD hc
 go_wp2_with (go_at_call 197;(with_reducible refine (PX.out _ _ _ hown.out).mono ?_);rintro e w6 ⟨rfl,rfl⟩)
 go_loopw [3,5] (fun vb vn wq=>∃ (m2 c2:Nat),vb=.int .i64 c2/\vn=.int .i64 m2/\c2+Wh.bl m2=Wh.bl N/\m2<=9999/\Below w.heap.size w wq) (fun _ vn _=>(intOf vn).toNat)
 case atStart=>exact ⟨m,c,rfl,rfl,hc2.out,by omega,hbr⟩
 case round=>
 obtain ⟨m2,c2,rfl,rfl,hcc,hm9,hbq⟩:=hrel
 by_cases hm0:m2=0
 ·have hcn:Hid (Wh.bl N=c2):=DB (by rw [hm0] at hcc;have:=Wh.yX;omega)
  subst hm0;clear hcc;go_wp2;go_ret;exact ⟨by rw [hcn.out] <;> rfl,hbq⟩
 have hh:=Wh.nO hm0
 have t2:Int.tdiv (m2:Int) 2=((m2 / 2:Nat):Int):=by rw [Int.tdiv_eq_ediv_of_nonneg (by omega)];omega
 have hm1:0<(m2:Int):=by omega
 have hlt:m2 / 2<m2:=by omega
 have hcb2:c2<=Wh.bl N:=by omega
 have JI:Hid (c2+1+Wh.bl (m2 / 2)=Wh.bl N):=DB (by omega);clear hcc hh;generalize m2 / 2=m3 at *;go_wp2
 go_roundw
 case rel=>exact ⟨m3,c2+1,by go_num,by go_num,JI.out,by omega,hbq⟩
 case measure=>simp [intOf];omega
namespace Wh
theorem qi:∀ l:List Int,(trim l).length<=l.length
 | []=>DF _
 | x :: l=>by
  have ih:=qi l
  show (match trim l with
   | []=>if x=0 then [] else [x]
   | y :: t=>x :: y :: t).length<=(x :: l).length
  split
  ·split <;> simp
  rename_i y t h
  rw [h] at ih
  simpa using ih
theorem ph {m n:Nat} (h:(a_ m).length=n+1):∃ x,(a_ m)[n]?=some x/\0<x:=by
 have hx:(a_ m)[n]?=some (a_ m)[n]:=List.getElem?_eq_getElem (by omega);refine ⟨_,hx,?_⟩;have h0:=(an m _ (List.mem_of_getElem? hx)).1
 by_cases hz:(a_ m)[n]=0
 ·have ht:=wC m
  have hs:a_ m=(a_ m).take n ++ [0]:=by
   have:=(List.take_append_drop n (a_ m)).symm;rw [List.drop_eq_getElem_cons (by omega),hz,List.drop_eq_nil_of_le (by omega)] at this;exact this
  rw [hs,jk] at ht;have h1:=qi ((a_ m).take n);rw [ht,List.length_append,List.length_take] at h1;simp at h1
  omega
 omega
end Wh
theorem mW (z:Int) (va:Value) (w:World) (ba:Nat) (ho:ae w ba va z) (hl:(Wh.a_ z.natAbs).length<=100000) :
  Calls Tryz.prog 199 #[.agg #[decide (z<0),va]] w fun e w'=>e=.returned (.bool (decide ((Wh.a_ z.natAbs).length<=400)))/\Below w.heap.size w w':=by
 obtain ⟨aa,j_,rfl,hma,hva⟩:=aF.seen ho;have hva:=DB hva;have hla:=DB (Wh.an z.natAbs)
 have hls:=fun n h=>Wh.ph (m:=z.natAbs) (n:=n) h
 have hz0:Hid ((Wh.a_ z.natAbs).length=0->decide (z<0)=false):=DB fun h=>by
  have:=Wh.gv.1 (List.length_eq_zero_iff.1 h);exact decide_eq_false (by omega)
 clear hma ho;generalize Wh.a_ z.natAbs=xs,decide (z<0)=s1 at *;have hls:=DB hls;have b1:=ay.new w (.bool s1) (.slice aa xs.length j_) 116;have hB:=(DE w.heap.size w).alloc (DF _) (.cells #[s1,.slice aa xs.length j_] 116)
 by_cases h4:xs.length<=400
 ·rw [decide_eq_true h4]
  generalize hw3:w.alloc (.cells #[s1,.slice aa xs.length j_] 116)=w3 at *;have e1:=b1.c0;have e2:=b1.c1
  by_cases hn:xs.length=0
  ·have hs:=hz0.out hn
   subst hs;have hn1:=DB hn;rw [hn] at e2 hw3 ⊢;clear hn hls hz0 b1 hl h4;go_enter Tryz.func199,Tryz.ntmps199
   go_wp2;clear e1 e2
   go_loopw [5,35] (fun _ vi wr=>∃ k:Nat,k<=0/\vi=.int .i64 k/\Below w3.heap.size w3 wr) (fun _ vi _=>0 - (intOf vi).toNat)
   case atStart=>exact ⟨0,Nat.zero_le _,rfl,DE _ _⟩
   case round=>
   obtain ⟨k,hk,rfl,hbr⟩:=hrel
   by_cases hlt:k<0
   ·obtain ⟨gb,y,eb,hgb,hyb,hcb⟩:=hva.out k (by rw [hn1.out];exact hlt)
    exact absurd hlt (Nat.not_lt_zero _)
   obtain rfl:k=0:=by omega
   go_wp2;go_ret;exact ⟨rfl,d_ hB hbr⟩
  obtain ⟨n,hn1⟩:∃ n,xs.length=n+1:=⟨xs.length - 1,by omega⟩
  obtain ⟨x,hx,hx0⟩:=hls.out n hn1;obtain ⟨ga,x',ea,hga,hxa,hca⟩:=hva.out n (by omega);subst ea;obtain rfl:=Option.some.inj (hx.symm.trans hxa.out);have G8:=hB.cell (p:=⟨ga,n,none⟩) hga;have F9:=G8.trans hca
  have hxn:¬ x=0:=by omega
  have h4':n+1<=400:=by omega
  have hd1:decide (400<(n:Int)+1)=false:=decide_eq_false (by omega);have hd2:(x == 0)=false:=beq_eq_false_iff_ne.2 hxn;have hd3:((n:Int)+1 == 0)=false:=beq_eq_false_iff_ne.2 (by omega);rw [hn1] at e2 hw3 ⊢;replace hn1:=DB hn1;clear hca G8 hx hn hxa hls hz0 b1 hl h4;go_enter Tryz.func199,Tryz.ntmps199
  go_wp2;clear e1 e2 F9 hxn hx0 hd1 hd2 hd3
  go_loopw [5,35] (fun _ vi wr=>∃ k:Nat,k<=n+1/\vi=.int .i64 k/\Below w3.heap.size w3 wr) (fun _ vi _=>n+1 - (intOf vi).toNat)
  case atStart=>exact ⟨0,Nat.zero_le _,rfl,DE _ _⟩
  case round=>
  obtain ⟨k,hk,rfl,hbr⟩:=hrel
  by_cases hlt:k<n+1
  ·obtain ⟨gb,y,eb,hgb,hyb,hcb⟩:=hva.out k (by rw [hn1.out];exact hlt)
   obtain rfl:ga=gb:=by simpa using eb
   have hcb:=((d_ hB hbr).cell (p:=⟨ga,k,none⟩) hgb).trans hcb;have IX:=hla.out y (List.mem_of_getElem? hyb.out)
   have PI:=fun W=>cQ y 0 9999 W
   rw [show M.ins y 0 9999=true by unfold M.ins;unfold Wh.lim at IX;simp;omega] at PI;replace PI:=DB PI;clear hyb IX
   go_wp2_with (go_at_call 28;(with_reducible refine (PI.out _).mono ?_);rintro e w5 ⟨rfl,rfl⟩)
   go_roundw
   case rel=>exact ⟨k+1,by omega,by go_num,hbr⟩
   case measure=>simp [intOf];omega
  obtain rfl:k=n+1:=by omega
  go_wp2;go_ret;exact ⟨rfl,d_ hB hbr⟩
 rw [decide_eq_false h4];go_enter Tryz.func199,Tryz.ntmps199
 go_wp2;go_ret;exact ⟨rfl,hB⟩
end
end Go.Proofs.YtkalaljcbmkbmaaGreat
