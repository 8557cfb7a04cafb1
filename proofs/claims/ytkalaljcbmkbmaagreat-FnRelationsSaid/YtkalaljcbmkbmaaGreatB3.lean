/-
  Joined texts: contracts and plain lemmas.
-/
import Derived.Test.YtkalaljcbmkbmaaGreatB1
import Derived.Test.YtkalaljcbmkbmaaGreatB2
import Derived.Test.YtkalaljcbmkbmaaGreatShB
import Derived.Lib.BitFns
set_option linter.unusedSimpArgs false
set_option linter.unusedVariables false
set_option maxRecDepth 100000
set_option maxHeartbeats 8000000
namespace Go.Proofs.YtkalaljcbmkbmaaGreat
open Tryz
section
open Go.RowKit open Gr M Rw Wh
namespace Wh
theorem Ad {a n:Int} (ha:¬ a<0):JS false ((a.natAbs:Int) / n)=a / n/\(a.natAbs:Int) % n=a % n:=by
 rw [show (a.natAbs:Int)=a by omega];exact ⟨rfl,rfl⟩
theorem Aa {a n:Int} (hn:0<n) (ha:a<0) (hr:(a.natAbs:Int) % n=0):JS true ((a.natAbs:Int) / n)=a / n/\(a.natAbs:Int) % n=a % n:=by
 have h1:=Int.mul_ediv_add_emod (a.natAbs:Int) n;rw [hr] at h1 ⊢
 have h2:a=n*-((a.natAbs:Int) / n):=by
  rw [Int.mul_neg];omega
 constructor
 ·show -((a.natAbs:Int) / n)=a / n
  conv=>rhs;rw [h2]
  rw [Int.mul_ediv_cancel_left _ ω]
 conv=>rhs;rw [h2]
 rw [Int.mul_emod_right]
theorem Ac {a n:Int} (hn:0<n) (ha:a<0) (hr:¬ (a.natAbs:Int) % n=0):JS true ((a.natAbs:Int) / n)+-1=a / n/\n - (a.natAbs:Int) % n=a % n:=by
 have h1:=Int.mul_ediv_add_emod (a.natAbs:Int) n;have h3:=Int.emod_nonneg (a.natAbs:Int) (show n≠0 by omega);have h4:=Int.emod_lt_of_pos (a.natAbs:Int) hn;generalize (a.natAbs:Int) / n=q at *;generalize (a.natAbs:Int) % n=r at *
 have h2:a=(n - r)+n*(-q+-1):=by
  rw [Int.mul_add,Int.mul_neg];omega
 constructor
 ·show -q+-1=a / n
  rw [h2,Int.add_mul_ediv_left _ _ ω,Int.ediv_eq_zero_of_lt ω ω,Int.zero_add]
 rw [h2,Int.add_mul_emod_self_left,Int.emod_eq_of_lt ω ω]
theorem wH {a n:Int} (s:Bool) (hn:0<n):(a_ (JS s ((a.natAbs:Int) / n)).natAbs).length<=(a_ a.natAbs).length:=by
 refine fT ?_;have h1:0<=(a.natAbs:Int) / n:=Int.ediv_nonneg ω ω;have h2:(a.natAbs:Int) / n<=a.natAbs:=Int.ediv_le_self _ ω;rw [rc h1];omega
theorem lw:(a_ (-1:Int).natAbs).length<=1:=dw (k:=1) δ
end Wh
theorem jv (a n:Int) (va:Value) (w:World) (ba:Nat) (hoa:aZ w ba va a) (hl:(Wh.a_ a.natAbs).length<=9000) (hn1:1<=n) (hn2:n<=1000000000000) :
  Calls prog 181 #[.agg #[decide (a<0),va],n] w fun e w'=>∃ sl,e=.returned (.tuple #[.agg #[decide (a / n<0),sl],(a % n:Int)])/\aZ w' w sl (a / n)/\Below w w w':=by
 obtain ⟨aa,s_,rfl,hma,hva⟩:=aF.seen hoa;have hva:=IU hva;have hla:=IU (aj a.natAbs);have hvl:=IU (bM a.natAbs)
 have hq0:=fun s=>wH (a:=a) (n:=n) s ω
 have PT:=fun s W v base ho=>iQ (Wh.JS s ((a.natAbs:Int) / n)) ((a.natAbs:Int) / n) (Wh.a_ a.natAbs).length s v W base ho ω rfl
 have d0:=fun h=>Ad (a:=a) (n:=n) h
 have d1:=fun h h'=>Aa (a:=a) (n:=n) ω h h'
 have d2:=fun h h'=>Ac (a:=a) (n:=n) ω h h'
 have d0:=IU d0;have d1:=IU d1;have d2:=IU d2;clear hma hoa
 obtain ⟨s1,hs1⟩:∃ s,decide (a<0)=s:=⟨_,rfl⟩
 rw [hs1];have hs1:=IU hs1;generalize a % n=zr,a / n=z at *;generalize hab:(a.natAbs:Int)=A at *;have Jc:Hid (Wh.val (Wh.a_ a.natAbs)=A):=hvl;clear hvl hab;generalize Wh.a_ a.natAbs=xs at *
 obtain ⟨s,hsd⟩:∃ s,Hid (decide (z<0)=s):=⟨_,IU rfl⟩
 rw [hsd.out];have b1:=(aw.new w (.bool s1) (.slice aa xs.length s_) 116).alloc (.cells #[false,.slice none 0 0] 116);have b2:=aw.new2 w (.cells #[s1,.slice aa xs.length s_] 116) (.bool false) (.slice none 0 0) 116;have hB:=((IX w w).alloc (IY _) (.cells #[s1,.slice aa xs.length s_] 116)).alloc (by rw [IV];omega) (.cells #[false,.slice none 0 0] 116);generalize hw3:(w.alloc (.cells #[s1,.slice aa xs.length s_] 116)).alloc (.cells #[false,.slice none 0 0] 116)=w3 at *;obtain ⟨w4,hrun,hown1,hg1⟩:=oR w3 xs.length ω;have hb4:Below w3 w3 w4:=bS hg1 (IY _) (fun k hk=>by cases hk);have hB3:=IU hB;have e2:=b1.c1;have Lu:=IU b1;have Lv:=IU b2;clear hg1 b2 hB;go_enter func181,ntmps181
 go_wp2;clear e2 b1
 go_loopw [7,8] (fun vr vi wr=>∃ (k:Nat) (q:List Int) (r:Int),k<=xs.length/\vi=.int .i64 ((k:Int) - 1)/\vr=.int .i64 r/\aF wr w3 (.slice (some ⟨w3,0,none⟩) xs.length xs.length) q/\ml xs q n k r/\Below w3 w3 wr) (fun _ vi _=>(intOf vi+1).toNat)
 case atStart=>exact ⟨xs.length,List.replicate xs.length 0,0,IY _,rfl,rfl,hown1,ml.start ω List.length_replicate,hb4⟩
 case round=>
 clear hown1 hb4;obtain ⟨k,q,r,hk,rfl,rfl,hown,hdi,hbr⟩:=hrel;have c1:=Lu.out.eN hbr Lu.out.size;have c2:=Lv.out.eN hbr Lv.out.size;have hwr:Below w w wr:=hB3.out.trans (hbr.mono hB3.out.size)
 cases k with
 | zero=>
  have hf:=hdi.fin;rw [Jc.out] at hf;obtain ⟨hq1,rfl,hq3⟩:=hf;have hov:Hid (mu wr w3 (.slice (some ⟨w3,0,none⟩) xs.length xs.length) (A / n) xs.length):=IU ⟨q,hown,hq3,hq1,by rw [hdi.len];exact IY _⟩;have hd0:=c1.c0;clear hdi hown hq1 hq3;cases s1
  ·have hna:¬ a<0:=by have:=hs1.out;simpa using this
   obtain ⟨hz1,hz2⟩:=d0.out ω;have PT:=PT false;rw [hz1] at PT;rw [hsd.out] at PT;have PT:=IU PT;rw [hz2]
   go_wp2_with (go_at_call 127;(with_reducible refine (PT.out _ _ _ hov.out).mono ?_);rintro e w5 ⟨vc,rfl,hoc,hbc⟩;obtain ⟨ac,Ic,rfl,hmc,I8⟩:=aF.view hoc;have r5:=c2.keep hbc;have b5:=c1.keep hbc;have p0:=r5.c0;have p1:=r5.c1;have g0:=r5.f0;have g1:=r5.f1;have z5:=r5.size;have y5:=b5.size;have x0:=b5.c0;clear I8 hmc)
   have hr0:=dE (w:=w) (w2:=w5) (w.heap.size+1) _ (.bool s) ω c2.size hoc (j_ hwr hbc);have hr1:=aF.alloc hr0.1 (.cells #[s,.slice ac (Wh.a_ z.natAbs).length Ic] 116);have hr2:=hr0.2.alloc hr0.2.size (.cells #[s,.slice ac (Wh.a_ z.natAbs).length Ic] 116);generalize (Wh.a_ z.natAbs).length=KH at *;exact D_ results181 ⟨_,rfl,hr1,hr2⟩
  have hna:a<0:=by have:=hs1.out;simpa using this
  by_cases hrz:A % n=0
  ·skip
   obtain ⟨hz1,hz2⟩:=d1.out hna hrz;have PT:=PT true;rw [hz1] at PT;rw [hsd.out] at PT;have PT:=IU PT;rw [hz2] at hrz ⊢
   go_wp2_with (go_at_call 127;(with_reducible refine (PT.out _ _ _ hov.out).mono ?_);rintro e w5 ⟨vc,rfl,hoc,hbc⟩;obtain ⟨ac,Ic,rfl,hmc,I8⟩:=aF.view hoc;have r5:=c2.keep hbc;have b5:=c1.keep hbc;have p0:=r5.c0;have p1:=r5.c1;have g0:=r5.f0;have g1:=r5.f1;have z5:=r5.size;have y5:=b5.size;have x0:=b5.c0;clear I8 hmc)
   have hr0:=dE (w:=w) (w2:=w5) (w.heap.size+1) _ (.bool s) ω c2.size hoc (j_ hwr hbc);have hr1:=aF.alloc hr0.1 (.cells #[s,.slice ac (Wh.a_ z.natAbs).length Ic] 116);have hr2:=hr0.2.alloc hr0.2.size (.cells #[s,.slice ac (Wh.a_ z.natAbs).length Ic] 116);generalize (Wh.a_ z.natAbs).length=KH at *;exact D_ results181 ⟨_,rfl,hr1,hr2⟩
  obtain ⟨hz1,hz2⟩:=d2.out hna hrz;have PT:=PT true;have hq1:=hq0 true
  have RF:0<A % n:=by have:=Int.emod_nonneg A (show n≠0 by omega);omega
  have hrn:A % n<n:=Int.emod_lt_of_pos _ ω;generalize A % n=rr,Wh.JS true (A / n)=y0 at *
  have PW:=fun W=>br (-1) W ω ω
  have PA:=fun va vb W ba bb (h1:aF W ba va (Wh.a_ y0.natAbs)) (h2:aF W bb vb (Wh.a_ (-1:Int).natAbs))=>ig y0 (-1) va vb W ba bb h1 h2 ω (by have:=lw;omega)
  rw [decide_eq_true (show (-1:Int)<0 by decide)] at PW PA;rw [hz1,hsd.out] at PA;have Xf:=RF
  obtain ⟨s0,hs0⟩:∃ s0,decide (y0<0)=s0:=⟨_,rfl⟩
  rw [hs0] at PT PA;have PT:=IU PT;have PW:=IU PW;have PA:=IU PA;replace hz2:=IU hz2;clear hz1 hs0 hq0 hq1 d0 d1 d2 hrz
  go_wp2_with (go_at_call 127;(with_reducible refine (PT.out _ _ _ hov.out).mono ?_);rintro e w5 ⟨vc,rfl,hoc,hbc⟩;obtain ⟨ac,Ic,rfl,hmc,I8⟩:=aF.view hoc;have r5:=c2.keep hbc;have b5:=c1.keep hbc;have p0:=r5.c0;have p1:=r5.c1;have g0:=r5.f0;have g1:=r5.f1;have z5:=r5.size;have y5:=b5.size;have x0:=b5.c0;clear I8 hmc)
  have bt:=aw.new w5 (.bool s0) (.slice ac (Wh.a_ y0.natAbs).length Ic) 116;have r6:=r5.alloc (.cells #[s0,.slice ac (Wh.a_ y0.natAbs).length Ic] 116);have QK:=aF.alloc hoc (.cells #[s0,.slice ac (Wh.a_ y0.natAbs).length Ic] 116);have B6:=(j_ hwr hbc).alloc (by have:=(j_ hwr hbc).size;omega) (.cells #[s0,.slice ac (Wh.a_ y0.natAbs).length Ic] 116);have u0:=bt.c0;have u1:=bt.c1;have zz:w5.heap.size<(w5.alloc (.cells #[s0,.slice ac (Wh.a_ y0.natAbs).length Ic] 116)).heap.size:=bt.size;generalize (Wh.a_ y0.natAbs).length=l0,w5.alloc (.cells #[s0,.slice ac (Wh.a_ y0.natAbs).length Ic] 116)=w6 at *;clear p0 p1 g0 g1 x0
  go_region_held3 (fun W=>W.cell? ⟨w5,0,none⟩=some (.bool s0)/\W.cell? ⟨w5,1,none⟩=some (.slice ac l0 Ic)) (first | exact ⟨hlA,hlA⟩ | (go_split_ands;exact ⟨hlA,hlA⟩) | go_keep) ((first
   | (go_at_call 88;(with_reducible refine (PW.out _).mono ?_);rintro e w7 ⟨v7,rfl,Lf,Ig⟩;(have QJ:aF _ _ _ (Wh.a_ (-1:Int).natAbs):=Lf);have Ou:=aE Ig (ag u0);have KA:=aE Ig (ag u1);have r7:=r6.drew.keep Ig;have B7:=B6.drew.trans (Ig.mono B6.size);have QL:=aF.below (aF.below QK (IX _ _).drew) Ig;(have z7:w6.heap.size<=w7.heap.size:=Ig.size))
   | (go_at_call 89;(with_reducible refine (PA.out _ _ _ _ _ QL QJ).mono ?_);rintro e w8 ⟨v8,rfl,Jb,It⟩;obtain ⟨a8,Pj,rfl,SM,YD⟩:=aF.view Jb;have y0_:=aE It Ou;have Mu:=aE It KA;have r8:=r7.keep It;have p0:=r8.c0;have p1:=r8.c1;have g0:=r8.f0;have g1:=r8.f1;have B8:=j_ B7 It;clear YD SM)
   | fail "ARMS"))
  all_goals
   have hr:=dE (w:=w) (w.heap.size+1) _ (.bool s) ω r7.size Jb B8;generalize (Wh.a_ z.natAbs).length=KH at *;go_wp2
   have hwz:IntKind.i64.wrap (n - rr)=n - rr:=by
    rw [IntKind.wrap_i64];omega
   exact D_ (v:=.tuple #[.agg #[s,.slice a8 KH Pj],(n - rr:Int)]) results181 ⟨_,by rw [hz2.out],hr.1,hr.2⟩
 | succ j=>
 obtain ⟨ga,x,ea,hga,hxa,hca⟩:=hva.out j ω;subst ea;have hca:=aE hwr hca;have hr0:=hdi.r0;have hlx:=hla.out x (List.mem_of_getElem? hxa.out);unfold Wh.lim at hlx;have hS:=hdi.step hla.out hxa.out hn2;have hy:=hS.1;have t1:Int.tdiv (r*10000+x) n=(r*10000+x) / n:=Int.tdiv_eq_ediv_of_nonneg hy.1;have t2:Int.tmod (r*10000+x) n=(r*10000+x) % n:=Int.tmod_eq_emod_of_nonneg hy.1;have hpl:=hdi.len;have hqk:q[j]?=some q[j]:=List.getElem?_eq_getElem ω;have hc0:=aF.cellAt hpl.symm hown hqk;have hf0:wr.frozen? ⟨w3,j,none⟩=false:=gK hpl hown j;have hO:=IU (aF.set (j:=j) hpl.symm hown ((r*10000+x) / n) rfl);have hS2:=IU hS.2;have JC:=IU hbr;have f2:=c1.c1;have Sa:w3.heap.size<wr.heap.size:=World.block_lt_of_cell? wr _ hc0
 have hdb:-1000000000000<=(r*10000+x) / n/\(r*10000+x) / n<=10000000000000000:=by
  have h1:=Int.ediv_nonneg hy.1 (show 0<=n by omega);have h2:=Int.ediv_le_self n hy.1;omega
 have hmb:0<=(r*10000+x) % n/\(r*10000+x) % n<n:=⟨Int.emod_nonneg _ ω,Int.emod_lt_of_pos _ ω⟩
 generalize (r*10000+x) % n=yr,(r*10000+x) / n=yq,q[j]=qj at *;clear hS hdi hpl hqk hown c1 c2 hxa;go_wp2
 go_roundw
 case rel=>exact ⟨j,_,_,ω,ν,ν,hO.out.1,hS2.out,JC.out.setCell (IY _) _⟩
 case measure=>first | (simp [intOf];done) | (simp [intOf];omega)
theorem ik (l:List Int) (v:Value) (i:Nat) (w:World) (base:Nat) (hown:aF w base v l) :
  cP 197 #[v,i] w (.int .i64 (Wh.nth l i)):=by
 obtain ⟨a,cap,rfl,hm,hv⟩:=hown.seen
 by_cases h:i<l.length
 ·obtain ⟨g,x,rfl,hg,hx,hcell⟩:=hv i h
  have hn:=IU (dZ hx.out);clear hv hm hown hx;go_enter func197,ntmps197
  go_wp2;go_ret;exact ⟨by rw [hn.out] <;> rfl,rfl⟩
 have hn:=IU (dY (l:=l) (i:=i) ω);clear hv hm hown;go_enter func197,ntmps197
 go_wp2;go_ret;exact ⟨by rw [hn.out] <;> rfl,rfl⟩
theorem xk (xs ys:List Int) (va vb:Value) (w:World) (ba bb:Nat) (hoa:aF w ba va xs) (JK:aF w bb vb ys) (hla:Wh.bK xs) (hlb:Wh.bK ys) (hl1:xs.length<=100000) (hl2:ys.length<=100000) :
  cB 201 #[va,vb] w (.int .i64 (Wh.JR (Wh.val xs) (Wh.val ys))):=by
 have PA:=fun (i:Nat) W h=>ik xs va i W ba h
 have PB:=fun (i:Nat) W h=>ik ys vb i W bb h
 have PM:=fun W=>fE (xs.length:Int) (ys.length:Int) W
 obtain ⟨L,hL⟩:∃ L:Nat,max (xs.length:Int) (ys.length:Int)=L:=⟨max xs.length ys.length,ω⟩
 have hx1:xs.length<=L:=ω
 have hy1:ys.length<=L:=ω
 have hLb:L<=100000:=ω
 rw [hL] at PM;have PM:=IU PM;have PA:=IU PA;have PB:=IU PB;obtain ⟨aa,s_,rfl,hma,hva⟩:=hoa.view;obtain ⟨ab,Il,rfl,hmb,hvb⟩:=JK.view;have hoa:=IU hoa;have JK:=IU JK;have hla:=IU hla;have hlb:=IU hlb;clear hma hmb hva hvb hL;go_enter func201,ntmps201
 go_wp2_with (go_at_call 94;with_reducible refine Id (PM.out _) ?_)
 go_loopw [5,6,7,24,28] (fun vi _ _ _ _ wr=>∃ k:Nat,k<=L/\vi=.int .i64 ((k:Int) - 1)/\(∀ q:Nat,k<=q->q<L->Wh.nth xs q=Wh.nth ys q)/\Below w w wr) (fun vi _ _ _ _ _=>(intOf vi+1).toNat)
 case atStart=>exact ⟨L,IY _,rfl,fun q h1 h2=>ω,IX _ _⟩
 case round=>
 obtain ⟨k,hk,rfl,heq,hbr⟩:=hrel;have heq:=IU heq
 cases k with
 | zero=>
  have hz:Hid (Wh.JR (Wh.val xs) (Wh.val ys)=0):=IU (Wh.cmp_eq hx1 hy1 fun q h=>heq.out q (Nat.zero_le _) h);go_wp2;go_ret;exact ⟨by rw [hz.out] <;> rfl,hbr⟩
 | succ j=>
 have QA:=PA.out j;have QB:=PB.out j;have hnx:=IU (rfl:Wh.nth xs j=Wh.nth xs j)
 obtain ⟨x,hx⟩:∃ x,Hid (Wh.nth xs j=x):=⟨_,IU rfl⟩
 obtain ⟨y,hy⟩:∃ y,Hid (Wh.nth ys j=y):=⟨_,IU rfl⟩
 rw [hx.out] at QA;rw [hy.out] at QB;have QA:=IU QA;have QB:=IU QB;clear hnx
 by_cases hxy:x=y
 ·subst hxy
  have heq2:Hid (∀ q:Nat,j<=q->q<L->Wh.nth xs q=Wh.nth ys q):=IU fun q h1 h2=>by
   by_cases hq:q=j
   ·subst hq;rw [hx.out,hy.out]
   exact heq.out q ω h2
  go_wp2_with (go_at_call 197;first
   | (with_reducible refine Id (QA.out _ (hoa.out.below hbr)) ?_)
   | (with_reducible refine Id (QB.out _ (JK.out.below hbr)) ?_))
  go_roundw
  case rel=>exact ⟨j,ω,ν,heq2.out,hbr⟩
  case measure=>first | (simp [intOf];done) | (simp [intOf];omega)
 by_cases hlt:x<y
 ·have hz:Hid (Wh.JR (Wh.val xs) (Wh.val ys)=-1):=IU (AF hla.out hlb.out hx1 hy1 (i:=j) ω (fun q h1 h2=>heq.out q ω h2) (by rw [hx.out,hy.out];exact hlt))
  go_wp2_with (go_at_call 197;first
   | (with_reducible refine Id (QA.out _ (hoa.out.below hbr)) ?_)
   | (with_reducible refine Id (QB.out _ (JK.out.below hbr)) ?_))
  go_ret;exact ⟨by rw [hz.out] <;> rfl,hbr⟩
 have hz:Hid (Wh.JR (Wh.val xs) (Wh.val ys)=1):=IU (AE hla.out hlb.out hx1 hy1 (i:=j) ω (fun q h1 h2=>heq.out q ω h2) (by rw [hx.out,hy.out];omega))
 have hlt2:y<x:=ω
 go_wp2_with (go_at_call 197;first
  | (with_reducible refine Id (QA.out _ (hoa.out.below hbr)) ?_)
  | (with_reducible refine Id (QB.out _ (JK.out.below hbr)) ?_))
 go_ret;exact ⟨by rw [hz.out] <;> rfl,hbr⟩
theorem lk (xs ys:List Int) (s:Int) (va vb:Value) (w:World) (ba bb:Nat) (hs:s=1∨s=-1) (hoa:aF w ba va xs) (JK:aF w bb vb ys) (hla:Wh.bK xs) (hlb:Wh.bK ys) (hnn:0<=Wh.val xs+s*Wh.val ys) (hl1:xs.length<=100000) (hl2:ys.length<=100000) :
  Calls prog 200 #[va,vb,s] w fun e w'=>∃ v,e=.returned v/\mu w' w v (Wh.val xs+s*Wh.val ys) (xs.length+ys.length+1)/\Below w w w':=by
 have PA:=fun (i:Nat) W h=>ik xs va i W ba h
 have PB:=fun (i:Nat) W h=>ik ys vb i W bb h
 have PA:=IU PA;have PB:=IU PB;obtain ⟨aa,s_,rfl,hma,hva⟩:=hoa.view;obtain ⟨ab,Il,rfl,hmb,hvb⟩:=JK.view;have hoa:=IU hoa;have JK:=IU JK;have hla:=IU hla;have hlb:=IU hlb;have hnn:=IU hnn;clear hma hmb hva hvb
 obtain ⟨L,hL1,hL2,hL3⟩:∃ L:Nat,xs.length<=L/\ys.length<=L/\L<=xs.length+ys.length/\(xs.length=L∨ys.length=L):=⟨max xs.length ys.length,ω,ω,ω⟩
 go_enter func200,ntmps200
 go_wp2
 go_loopw [7,8,9,10,38,43] (fun vo vc vi _ _ _ wr=>∃ (i:Nat) (o:List Int) (c:Int),i<=L+1/\(L<i->c=0)/\vi=.int .i64 i/\vc=.int .i64 c/\aF wr w vo o/\iC xs ys s i o c/\Below w w wr) (fun _ _ vi _ _ _ _=>L+2 - (intOf vi).toNat)
 case atStart=>exact ⟨0,[],0,ω,fun h=>ω,rfl,rfl,aF.nil _ _,iC.start xs ys s,IX _ _⟩
 case round=>
 obtain ⟨i,o,c,hi,hic,rfl,rfl,hown,hai,hbr⟩:=hrel;have hrg:=hai.rng hs hla.out hlb.out;have hol:=hai.len;have Kp:=hbr.size;have QA:=PA.out i;have QB:=PB.out i;have Oh:=mX hlb.out i;unfold Wh.lim at Oh
 have hstep:=IU fun x c' h1 h2 h3 h4=>hai.step (x:=x) (c':=c') h1 h2 h3 h4
 have hsx:-9999<=s*Wh.nth ys i/\s*Wh.nth ys i<=9999:=by rcases hs with rfl | rfl <;> omega
 have hcar:=IU fun h1 h2 h3=>hai.carry hs h1 h2 hnn.out h3
 have hfin:Hid (xs.length<=i->ys.length<=i->c=0->Wh.val xs+s*Wh.val ys=Wh.val o):=IU fun h1 h2 h3=>(hai.all h1 h2).symm.trans (by rw [h3,Int.mul_zero,Int.add_zero])
 have hls:=IU hai.ls;have hown:=IU hown;clear hai;have hnx:=dY (l:=xs) (i:=i);have hny:=dY (l:=ys) (i:=i);have hnx:=IU hnx;have hny:=IU hny
 obtain ⟨x,hx⟩:∃ x,Wh.nth xs i=x:=⟨_,rfl⟩
 obtain ⟨y,hy⟩:∃ y,Wh.nth ys i=y:=⟨_,rfl⟩
 rw [hx] at QA hrg hstep hnx;rw [hy] at QB hrg hstep hsx Oh hny;clear hx hy;have QA:=IU QA;have QB:=IU QB;generalize hsb:s*y=sb at *
 by_cases ha:i<xs.length
 ·have hiL:i<L:=ω
  clear hcar hfin hnx hny
  by_cases hx0:x+sb+c<0
  ·skip
   have hS:=hstep.out (x+sb+c+10000) (-1) ⟨ω,ω⟩ ω ξ ξ;have hS:=IU hS;clear hstep
   go_wp2_with (first
    | (go_at_call 197;first
     | (with_reducible refine Id (QA.out _ (hoa.out.below hbr)) ?_)
     | (with_reducible refine Id (QB.out _ (JK.out.below hbr)) ?_))
    | (at_builtin;refine dJ (W:=wr) w (x+sb+c+10000) _ _ rfl (.tmp 48) (.tmp 50) rfl rfl rfl hown.out (IX _ _) ω ω ?_;rintro v6 w6 hown6 hb6))
   go_roundw
   case rel=>exact ⟨i+1,_,_,ω,fun h=>by first | rfl | omega,ν,ν,hown6,hS.out,hbr.trans hb6⟩
   case measure=>simp [intOf];omega
  by_cases hx1:10000<=x+sb+c
  ·skip
   have hS:=hstep.out (x+sb+c - 10000) (1) ⟨ω,ω⟩ ω ξ ξ;have hS:=IU hS;clear hstep
   go_wp2_with (first
    | (go_at_call 197;first
     | (with_reducible refine Id (QA.out _ (hoa.out.below hbr)) ?_)
     | (with_reducible refine Id (QB.out _ (JK.out.below hbr)) ?_))
    | (at_builtin;refine dJ (W:=wr) w (x+sb+c - 10000) _ _ rfl (.tmp 48) (.tmp 50) rfl rfl rfl hown.out (IX _ _) ω ω ?_;rintro v6 w6 hown6 hb6))
   go_roundw
   case rel=>exact ⟨i+1,_,_,ω,fun h=>by first | rfl | omega,ν,ν,hown6,hS.out,hbr.trans hb6⟩
   case measure=>simp [intOf];omega
  skip
  have hS:=hstep.out (x+sb+c) (0) ⟨ω,ω⟩ ω ξ ξ;have hS:=IU hS;clear hstep
  go_wp2_with (first
   | (go_at_call 197;first
    | (with_reducible refine Id (QA.out _ (hoa.out.below hbr)) ?_)
    | (with_reducible refine Id (QB.out _ (JK.out.below hbr)) ?_))
   | (at_builtin;refine dJ (W:=wr) w (x+sb+c) _ _ rfl (.tmp 48) (.tmp 50) rfl rfl rfl hown.out (IX _ _) ω ω ?_;rintro v6 w6 hown6 hb6))
  go_roundw
  case rel=>exact ⟨i+1,_,_,ω,fun h=>by first | rfl | omega,ν,ν,hown6,hS.out,hbr.trans hb6⟩
  case measure=>simp [intOf];omega
 by_cases hb:i<ys.length
 ·have hiL:i<L:=ω
  clear hcar hfin hnx hny
  by_cases hx0:x+sb+c<0
  ·skip
   have hS:=hstep.out (x+sb+c+10000) (-1) ⟨ω,ω⟩ ω ξ ξ;have hS:=IU hS;clear hstep
   go_wp2_with (first
    | (go_at_call 197;first
     | (with_reducible refine Id (QA.out _ (hoa.out.below hbr)) ?_)
     | (with_reducible refine Id (QB.out _ (JK.out.below hbr)) ?_))
    | (at_builtin;refine dJ (W:=wr) w (x+sb+c+10000) _ _ rfl (.tmp 48) (.tmp 50) rfl rfl rfl hown.out (IX _ _) ω ω ?_;rintro v6 w6 hown6 hb6))
   go_roundw
   case rel=>exact ⟨i+1,_,_,ω,fun h=>by first | rfl | omega,ν,ν,hown6,hS.out,hbr.trans hb6⟩
   case measure=>simp [intOf];omega
  by_cases hx1:10000<=x+sb+c
  ·skip
   have hS:=hstep.out (x+sb+c - 10000) (1) ⟨ω,ω⟩ ω ξ ξ;have hS:=IU hS;clear hstep
   go_wp2_with (first
    | (go_at_call 197;first
     | (with_reducible refine Id (QA.out _ (hoa.out.below hbr)) ?_)
     | (with_reducible refine Id (QB.out _ (JK.out.below hbr)) ?_))
    | (at_builtin;refine dJ (W:=wr) w (x+sb+c - 10000) _ _ rfl (.tmp 48) (.tmp 50) rfl rfl rfl hown.out (IX _ _) ω ω ?_;rintro v6 w6 hown6 hb6))
   go_roundw
   case rel=>exact ⟨i+1,_,_,ω,fun h=>by first | rfl | omega,ν,ν,hown6,hS.out,hbr.trans hb6⟩
   case measure=>simp [intOf];omega
  skip
  have hS:=hstep.out (x+sb+c) (0) ⟨ω,ω⟩ ω ξ ξ;have hS:=IU hS;clear hstep
  go_wp2_with (first
   | (go_at_call 197;first
    | (with_reducible refine Id (QA.out _ (hoa.out.below hbr)) ?_)
    | (with_reducible refine Id (QB.out _ (JK.out.below hbr)) ?_))
   | (at_builtin;refine dJ (W:=wr) w (x+sb+c) _ _ rfl (.tmp 48) (.tmp 50) rfl rfl rfl hown.out (IX _ _) ω ω ?_;rintro v6 w6 hown6 hb6))
  go_roundw
  case rel=>exact ⟨i+1,_,_,ω,fun h=>by first | rfl | omega,ν,ν,hown6,hS.out,hbr.trans hb6⟩
  case measure=>simp [intOf];omega
 by_cases hc0:c=0
 ·subst hc0
  have hv:=hfin.out ω ω rfl
  have hres:Hid (∀ vo W b,aF W b vo o->mu W b vo (Wh.val xs+s*Wh.val ys) (xs.length+ys.length+1)):=IU fun vo W b h=>⟨o,h,hls.out,hv.symm,ω⟩
  clear hstep hcar hfin hnx hny hv;go_wp2;go_ret;exact ⟨_,rfl,hres.out _ _ _ hown.out,hbr⟩
 have hc1:=hcar.out ω ω hc0
 have hiL:i<=L:=by
  by_cases h:L<i
  ·exact absurd (hic h) hc0
  omega
 have hx0_:=hnx.out ω;have YG:=hny.out ω
 have SW:sb=0:=by rw [←hsb,YG,Int.mul_zero]
 clear hcar hfin hnx hny
 by_cases hx0:x+sb+c<0
 ·skip
  exfalso;omega
 by_cases hx1:10000<=x+sb+c
 ·skip
  exfalso;omega
 skip
 have hS:=hstep.out (1) (0) ⟨ω,ω⟩ ω ξ ξ;have hS:=IU hS;clear hstep
 go_wp2_with (first
  | (go_at_call 197;first
   | (with_reducible refine Id (QA.out _ (hoa.out.below hbr)) ?_)
   | (with_reducible refine Id (QB.out _ (JK.out.below hbr)) ?_))
  | (at_builtin;refine dJ (W:=wr) w (1) _ _ rfl (.tmp 48) (.tmp 50) rfl rfl rfl hown.out (IX _ _) ω ω ?_;rintro v6 w6 hown6 hb6))
 go_roundw
 case rel=>exact ⟨i+1,_,_,ω,fun h=>by first | rfl | omega,ν,ν,hown6,hS.out,hbr.trans hb6⟩
 case measure=>simp [intOf];omega
theorem jK (z y:Int) (n:Nat) (neg:Bool) (v:Value) (w:World) (base:Nat) (ho:mu w base v y n) (hn:n<=1000000) (hz:Wh.JS neg y=z) :
  Calls prog 196 #[neg,v] w fun e w'=>∃ sl,e=.returned (.agg #[decide (z<0),sl])/\aZ w' w sl z/\Below w w w':=by
 obtain ⟨o,h1,h2,h3,h4⟩:=ho;exact jL z neg o v w base h1 h2 ω (by rw [h3];exact hz)
theorem mN (a b:Int) (va vb:Value) (w:World) (ba bb:Nat) (hoa:aZ w ba va a) (JK:aZ w bb vb b) (hl1:(Wh.a_ a.natAbs).length<=10000) (hl2:(Wh.a_ b.natAbs).length<=10000) :
  Calls prog 188 #[.agg #[decide (a<0),va],.agg #[decide (b<0),vb]] w fun e w'=>∃ sl,e=.returned (.agg #[decide (a+b<0),sl])/\aZ w' w sl (a+b)/\Below w w w':=by
 obtain ⟨aa,s_,rfl,-,-⟩:=aF.view hoa;obtain ⟨ab,Il,rfl,-,-⟩:=aF.view JK
 have PA:=fun s hs h0 W h1 h2=>lk (Wh.a_ a.natAbs) (Wh.a_ b.natAbs) s (.slice aa (Wh.a_ a.natAbs).length s_) (.slice ab (Wh.a_ b.natAbs).length Il) W ba bb hs h1 h2 (aj _) (aj _) h0 ω ω
 rw [bM,bM] at PA
 have PA':=fun s hs h0 W h1 h2=>lk (Wh.a_ b.natAbs) (Wh.a_ a.natAbs) s (.slice ab (Wh.a_ b.natAbs).length Il) (.slice aa (Wh.a_ a.natAbs).length s_) W bb ba hs h1 h2 (aj _) (aj _) h0 ω ω
 rw [bM,bM] at PA'
 have PO:=fun W h1 h2=>xk (Wh.a_ a.natAbs) (Wh.a_ b.natAbs) (.slice aa (Wh.a_ a.natAbs).length s_) (.slice ab (Wh.a_ b.natAbs).length Il) W ba bb h1 h2 (aj _) (aj _) ω ω
 rw [bM,bM] at PO
 have PT:=fun s y (h:Wh.JS s y=a+b) W v base ho=>jK (a+b) y ((Wh.a_ a.natAbs).length+(Wh.a_ b.natAbs).length+1) s v W base ho ω h
 have Q_:=fun s y (h:Wh.JS s y=a+b) W v base ho=>jK (a+b) y ((Wh.a_ b.natAbs).length+(Wh.a_ a.natAbs).length+1) s v W base ho ω h
 have LJ:Hid (∀ W,Below w w W->aF W ba (.slice aa (Wh.a_ a.natAbs).length s_) (Wh.a_ a.natAbs)):=IU fun W h=>aF.below hoa h
 have Ma:Hid (∀ W,Below w w W->aF W bb (.slice ab (Wh.a_ b.natAbs).length Il) (Wh.a_ b.natAbs)):=IU fun W h=>aF.below JK h
 obtain ⟨s1,hs1⟩:∃ s,decide (a<0)=s:=⟨_,rfl⟩
 obtain ⟨s2,hs2⟩:∃ s,decide (b<0)=s:=⟨_,rfl⟩
 clear hoa JK
 by_cases hss:s1=s2
 ·subst hss
  have PT:=IU (PT s1 _ (Wh.add_same hs1 hs2));have PA:=IU (PA 1 (Or.inl rfl) ω);rw [hs1,hs2];clear hs1 hs2 PA' Q_ PO;generalize (a.natAbs:Int)+1*(b.natAbs:Int)=y at *;generalize Wh.a_ b.natAbs=ys,Wh.a_ a.natAbs=xs,a+b=z at *;generalize decide (z<0)=s,ys.length=l2,xs.length=l1 at *;obtain ⟨w3,hw3,b1,b2,b3,hB⟩:=iF w (.bool s1) (.slice aa l1 s_) 116 (.bool s1) (.slice ab l2 Il) 116 (.bool false) (.slice none 0 0) 116;have n1:=b1;have n2:=b2;have n3:=b3;have Bn:=hB;clear b1 b2 b3;have e1:=n1.c0;have e2:=n1.c1;have e3:=n2.c0;have e4:=n2.c1;go_enter func188,ntmps188
  go_wp2
  go_region_held3 (fun W=>W.cell? ⟨w,0,none⟩=some (.bool s1)/\W.cell? ⟨w,1,none⟩=some (.slice aa l1 s_)/\W.cell? ⟨w.heap.size+1,0,none⟩=some (.bool s1)/\W.cell? ⟨w.heap.size+1,1,none⟩=some (.slice ab l2 Il)) (first | exact ⟨hlA,hlA,hlA,hlA⟩ | (go_split_ands;exact ⟨hlA,hlA,hlA,hlA⟩) | go_keep) ((first
   | (go_at_call 200;(with_reducible refine (PA.out _ (LJ.out _ Bn.drew) (Ma.out _ Bn.drew)).mono ?_);rintro e w4 ⟨v4,rfl,Iq,hb4⟩;have B4:=Bn.drew.trans (hb4.mono Bn.size);have r4:=n3.drew.keep hb4;have KA:=aE hb4 (ag e1);have Kq:=aE hb4 (ag e2);have MJ:=aE hb4 (ag e3);have Mn:=aE hb4 (ag e4);(have z4:w3.heap.size<=w4.heap.size:=hb4.size))
   | (go_at_call 196;(with_reducible refine (PT.out _ _ _ Iq).mono ?_);rintro e w5 ⟨vc,rfl,hoc,hbc⟩;obtain ⟨ac,Ic,rfl,hmc,I8⟩:=aF.view hoc;have B5:=j_ B4 hbc;have r5:=r4.keep hbc;have c0:=r5.c0;have c1:=r5.c1;have g0:=r5.f0;have g1:=r5.f1;have Mu:=aE hbc KA;have Nf:=aE hbc Kq;have Q4:=aE hbc MJ;have RQ:=aE hbc Mn;clear I8 hmc)
   | fail "ARMS"))
  all_goals
   have hr:=dE (w:=w) (w.heap.size+1+1) _ (.bool s) ω (Nat.lt_of_lt_of_le n3.size z4) hoc B5;generalize (Wh.a_ z.natAbs).length=KH at *;go_wp2;exact D_ results188 ⟨_,rfl,hr.1,hr.2⟩
 obtain rfl:s2=!s1:=by cases s1 <;> cases s2 <;> simp_all
 have hsn:(s1 == !s1)=false:=by cases s1 <;> rfl
 clear hss;have hd:=kC (a:=a) (b:=b) hs1 hs2;have hd':=kC (a:=b) (b:=a) hs2 (by rw [Bool.not_not];exact hs1);rw [Int.add_comm b a] at hd';rw [hs1,hs2];clear hs1 hs2
 by_cases hlt:a.natAbs<b.natAbs
 ·skip
  have PT:=IU (Q_ (!s1) _ hd');have PA:=IU (PA' (-1) (Or.inr rfl) ω);rw [lV ω] at PO;have PO:=IU PO;clear hlt hd hd' Q_ PA';generalize (b.natAbs:Int)+-1*(a.natAbs:Int)=y at *;generalize Wh.a_ b.natAbs=ys,Wh.a_ a.natAbs=xs,a+b=z at *;generalize decide (z<0)=s,ys.length=l2,xs.length=l1 at *;obtain ⟨w3,hw3,b1,b2,b3,hB⟩:=iF w (.bool s1) (.slice aa l1 s_) 116 (.bool (!s1)) (.slice ab l2 Il) 116 (.bool false) (.slice none 0 0) 116;have i1:=b1.c0;have i2:=b1.c1;have i3:=b2.c0;have i4:=b2.c1;go_enter func188,ntmps188
  go_wp2_with (go_at_call 201;with_reducible refine p_ (PO.out _ (LJ.out _ hB) (Ma.out _ hB)) fun wm KD=>?_;have n1:=b1.keep KD;have n2:=b2.keep KD;have n3:=b3.keep KD;have Bn:=j_ hB KD)
  clear i1 i2 i3 i4 b1 b2 b3 KD;have e1:=n1.c0;have e2:=n1.c1;have e3:=n2.c0;have e4:=n2.c1
  go_region_held3 (fun W=>W.cell? ⟨w,0,none⟩=some (.bool s1)/\W.cell? ⟨w,1,none⟩=some (.slice aa l1 s_)/\W.cell? ⟨w.heap.size+1,0,none⟩=some (.bool (!s1))/\W.cell? ⟨w.heap.size+1,1,none⟩=some (.slice ab l2 Il)) (first | exact ⟨hlA,hlA,hlA,hlA⟩ | (go_split_ands;exact ⟨hlA,hlA,hlA,hlA⟩) | go_keep) ((first
   | (go_at_call 200;(with_reducible refine (PA.out _ (Ma.out _ Bn.drew) (LJ.out _ Bn.drew)).mono ?_);rintro e w4 ⟨v4,rfl,Iq,hb4⟩;have B4:=Bn.drew.trans (hb4.mono Bn.size);have r4:=n3.drew.keep hb4;have KA:=aE hb4 (ag e1);have Kq:=aE hb4 (ag e2);have MJ:=aE hb4 (ag e3);have Mn:=aE hb4 (ag e4);(have z4:wm.heap.size<=w4.heap.size:=hb4.size))
   | (go_at_call 196;(with_reducible refine (PT.out _ _ _ Iq).mono ?_);rintro e w5 ⟨vc,rfl,hoc,hbc⟩;obtain ⟨ac,Ic,rfl,hmc,I8⟩:=aF.view hoc;have B5:=j_ B4 hbc;have r5:=r4.keep hbc;have c0:=r5.c0;have c1:=r5.c1;have g0:=r5.f0;have g1:=r5.f1;have Mu:=aE hbc KA;have Nf:=aE hbc Kq;have Q4:=aE hbc MJ;have RQ:=aE hbc Mn;clear I8 hmc)
   | fail "ARMS"))
  all_goals
   have hr:=dE (w:=w) (w.heap.size+1+1) _ (.bool s) ω (Nat.lt_of_lt_of_le n3.size z4) hoc B5;generalize (Wh.a_ z.natAbs).length=KH at *;go_wp2;exact D_ results188 ⟨_,rfl,hr.1,hr.2⟩
 skip
 have PT:=IU (PT s1 _ hd);have PA:=IU (PA (-1) (Or.inr rfl) ω)
 have hr0:0<=Wh.JR (a.natAbs:Int) (b.natAbs:Int):=by unfold Wh.JR;rw [if_neg ω];split <;> omega
 generalize Wh.JR (a.natAbs:Int) (b.natAbs:Int)=rr at *;have PO:=IU PO;clear hlt hd hd' Q_ PA';generalize (a.natAbs:Int)+-1*(b.natAbs:Int)=y at *;generalize Wh.a_ b.natAbs=ys,Wh.a_ a.natAbs=xs,a+b=z at *;generalize decide (z<0)=s,ys.length=l2,xs.length=l1 at *;obtain ⟨w3,hw3,b1,b2,b3,hB⟩:=iF w (.bool s1) (.slice aa l1 s_) 116 (.bool (!s1)) (.slice ab l2 Il) 116 (.bool false) (.slice none 0 0) 116;have i1:=b1.c0;have i2:=b1.c1;have i3:=b2.c0;have i4:=b2.c1;go_enter func188,ntmps188
 go_wp2_with (go_at_call 201;with_reducible refine p_ (PO.out _ (LJ.out _ hB) (Ma.out _ hB)) fun wm KD=>?_;have n1:=b1.keep KD;have n2:=b2.keep KD;have n3:=b3.keep KD;have Bn:=j_ hB KD)
 clear i1 i2 i3 i4 b1 b2 b3 KD;have e1:=n1.c0;have e2:=n1.c1;have e3:=n2.c0;have e4:=n2.c1
 go_region_held3 (fun W=>W.cell? ⟨w,0,none⟩=some (.bool s1)/\W.cell? ⟨w,1,none⟩=some (.slice aa l1 s_)/\W.cell? ⟨w.heap.size+1,0,none⟩=some (.bool (!s1))/\W.cell? ⟨w.heap.size+1,1,none⟩=some (.slice ab l2 Il)) (first | exact ⟨hlA,hlA,hlA,hlA⟩ | (go_split_ands;exact ⟨hlA,hlA,hlA,hlA⟩) | go_keep) ((first
  | (go_at_call 200;(with_reducible refine (PA.out _ (LJ.out _ Bn.drew) (Ma.out _ Bn.drew)).mono ?_);rintro e w4 ⟨v4,rfl,Iq,hb4⟩;have B4:=Bn.drew.trans (hb4.mono Bn.size);have r4:=n3.drew.keep hb4;have KA:=aE hb4 (ag e1);have Kq:=aE hb4 (ag e2);have MJ:=aE hb4 (ag e3);have Mn:=aE hb4 (ag e4);(have z4:wm.heap.size<=w4.heap.size:=hb4.size))
  | (go_at_call 196;(with_reducible refine (PT.out _ _ _ Iq).mono ?_);rintro e w5 ⟨vc,rfl,hoc,hbc⟩;obtain ⟨ac,Ic,rfl,hmc,I8⟩:=aF.view hoc;have B5:=j_ B4 hbc;have r5:=r4.keep hbc;have c0:=r5.c0;have c1:=r5.c1;have g0:=r5.f0;have g1:=r5.f1;have Mu:=aE hbc KA;have Nf:=aE hbc Kq;have Q4:=aE hbc MJ;have RQ:=aE hbc Mn;clear I8 hmc)
  | fail "ARMS"))
 all_goals
  have hr:=dE (w:=w) (w.heap.size+1+1) _ (.bool s) ω (Nat.lt_of_lt_of_le n3.size z4) hoc B5;generalize (Wh.a_ z.natAbs).length=KH at *;go_wp2;exact D_ results188 ⟨_,rfl,hr.1,hr.2⟩
theorem qQ (a b:Int) (va vb:Value) (w:World) (ba bb:Nat) (hoa:aZ w ba va a) (JK:aZ w bb vb b) (hl1:(Wh.a_ a.natAbs).length<=10000) (hl2:(Wh.a_ b.natAbs).length<=10000) :
  Calls prog 202 #[.agg #[decide (a<0),va],.agg #[decide (b<0),vb]] w fun e w'=>∃ sl,e=.returned (.agg #[decide (a - b<0),sl])/\aZ w' w sl (a - b)/\Below w w w':=by
 obtain ⟨aa,s_,rfl,-,-⟩:=aF.view hoa;obtain ⟨ab,Il,rfl,-,-⟩:=aF.view JK
 have hnl:(Wh.a_ (-b).natAbs).length<=10000:=by rw [Int.natAbs_neg];exact hl2
 have PM:=fun W (h:aF W bb (.slice ab (Wh.a_ b.natAbs).length Il) (Wh.a_ b.natAbs))=>kv b (.slice ab (Wh.a_ b.natAbs).length Il) W bb h ω
 have PA:=fun Ot W bb' (h1:aF W ba (.slice aa (Wh.a_ a.natAbs).length s_) (Wh.a_ a.natAbs)) (h2:aZ W bb' Ot (-b))=>mN a (-b) (.slice aa (Wh.a_ a.natAbs).length s_) Ot W ba bb' h1 h2 hl1 hnl
 rw [←Int.sub_eq_add_neg] at PA
 have LJ:Hid (∀ W,Below w w W->aF W ba (.slice aa (Wh.a_ a.natAbs).length s_) (Wh.a_ a.natAbs)):=IU fun W h=>aF.below hoa h
 have Ma:Hid (∀ W,Below w w W->aF W bb (.slice ab (Wh.a_ b.natAbs).length Il) (Wh.a_ b.natAbs)):=IU fun W h=>aF.below JK h
 clear hoa JK hnl;generalize Wh.a_ b.natAbs=ys,Wh.a_ a.natAbs=xs,-b=nb,a - b=z,decide (b<0)=s2,decide (a<0)=s1 at *;generalize decide (nb<0)=s3,decide (z<0)=s,ys.length=l2,xs.length=l1 at *;have PM:=IU PM;have PA:=IU PA;obtain ⟨w3,hw3,n1,n2,n3,Bn⟩:=iF w (.bool s1) (.slice aa l1 s_) 116 (.bool s2) (.slice ab l2 Il) 116 (.bool false) (.slice none 0 0) 116;have e1:=n1.c0;have e2:=n1.c1;have e3:=n2.c0;have e4:=n2.c1;go_enter func202,ntmps202
 go_wp2
 go_region_held3 (fun W=>W.cell? ⟨w,0,none⟩=some (.bool s1)/\W.cell? ⟨w,1,none⟩=some (.slice aa l1 s_)/\W.cell? ⟨w.heap.size+1,0,none⟩=some (.bool s2)/\W.cell? ⟨w.heap.size+1,1,none⟩=some (.slice ab l2 Il)) (first | exact ⟨hlA,hlA,hlA,hlA⟩ | (go_split_ands;exact ⟨hlA,hlA,hlA,hlA⟩) | go_keep) ((first
  | (go_at_call 192;(with_reducible refine (PM.out _ (Ma.out _ Bn.drew)).mono ?_);rintro e w4 ⟨v4,rfl,Iq,hb4⟩;have B4:=Bn.drew.trans (hb4.mono Bn.size);have r4:=n3.drew.keep hb4;have KA:=aE hb4 (ag e1);have Kq:=aE hb4 (ag e2);have MJ:=aE hb4 (ag e3);have Mn:=aE hb4 (ag e4);(have z4:w3.heap.size<=w4.heap.size:=hb4.size))
  | (go_at_call 188;(with_reducible refine (PA.out _ _ _ (LJ.out _ B4) Iq).mono ?_);rintro e w5 ⟨vc,rfl,hoc,hbc⟩;obtain ⟨ac,Ic,rfl,hmc,I8⟩:=aF.view hoc;have B5:=j_ B4 hbc;have r5:=r4.keep hbc;have c0:=r5.c0;have c1:=r5.c1;have g0:=r5.f0;have g1:=r5.f1;have Mu:=aE hbc KA;have Nf:=aE hbc Kq;have Q4:=aE hbc MJ;have RQ:=aE hbc Mn;clear I8 hmc)
  | fail "ARMS"))
 all_goals
  have hr:=dE (w:=w) (w.heap.size+1+1) _ (.bool s) ω (Nat.lt_of_lt_of_le n3.size z4) hoc B5;generalize (Wh.a_ z.natAbs).length=KH at *;go_wp2;exact D_ results202 ⟨_,rfl,hr.1,hr.2⟩
theorem pC (a n:Int) (va:Value) (w:World) (ba:Nat) (hoa:aZ w ba va a) (hl1:(Wh.a_ a.natAbs).length<=10000) (hn1:-1000000000000000000<=n) (hn2:n<=1000000000000000000) :
  Calls prog 92 #[.agg #[decide (a<0),va],n] w fun e w'=>∃ sl,e=.returned (.agg #[decide (a*n<0),sl])/\aZ w' w sl (a*n)/\Below w w w':=by
 obtain ⟨aa,s_,rfl,-,-⟩:=aF.view hoa;have hnl:(Wh.a_ n.natAbs).length<=10000:=Nat.le_trans (dw (k:=5) ω) δ
 have PM:=fun W=>br n W hn1 hn2
 have PA:=fun Ot W bb' (h1:aF W ba (.slice aa (Wh.a_ a.natAbs).length s_) (Wh.a_ a.natAbs)) (h2:aZ W bb' Ot n)=>dX a n (.slice aa (Wh.a_ a.natAbs).length s_) Ot W ba bb' h1 h2 hl1 hnl
 have LJ:Hid (∀ W,Below w w W->aF W ba (.slice aa (Wh.a_ a.natAbs).length s_) (Wh.a_ a.natAbs)):=IU fun W h=>aF.below hoa h
 clear hoa hnl hn1 hn2;generalize Wh.a_ a.natAbs=xs,a*n=z,decide (a<0)=s1 at *;generalize decide (n<0)=s3,decide (z<0)=s,xs.length=l1 at *;have PM:=IU PM;have PA:=IU PA;have n1:=(aw.new w (.bool s1) (.slice aa l1 s_) 116).alloc (.cells #[false,.slice none 0 0] 116);have n3:=aw.new2 w (.cells #[s1,.slice aa l1 s_] 116) (.bool false) (.slice none 0 0) 116;have Bn:=((IX w w).alloc (IY _) (.cells #[s1,.slice aa l1 s_] 116)).alloc (by rw [IV];omega) (.cells #[false,.slice none 0 0] 116);generalize hw3:(w.alloc (.cells #[s1,.slice aa l1 s_] 116)).alloc (.cells #[false,.slice none 0 0] 116)=w3 at *;have e1:=n1.c0;have e2:=n1.c1;go_enter func92,ntmps92
 go_wp2
 go_region_held3 (fun W=>W.cell? ⟨w,0,none⟩=some (.bool s1)/\W.cell? ⟨w,1,none⟩=some (.slice aa l1 s_)) (first | exact ⟨hlA,hlA⟩ | (go_split_ands;exact ⟨hlA,hlA⟩) | go_keep) ((first
  | (go_at_call 88;(with_reducible refine (PM.out _).mono ?_);rintro e w4 ⟨v4,rfl,Iq,hb4⟩;have B4:=Bn.drew.trans (hb4.mono Bn.size);have r4:=n3.drew.keep hb4;have KA:=aE hb4 (ag e1);have Kq:=aE hb4 (ag e2);(have z4:w3.heap.size<=w4.heap.size:=hb4.size))
  | (go_at_call 87;(with_reducible refine (PA.out _ _ _ (LJ.out _ B4) Iq).mono ?_);rintro e w5 ⟨vc,rfl,hoc,hbc⟩;obtain ⟨ac,Ic,rfl,hmc,I8⟩:=aF.view hoc;have B5:=j_ B4 hbc;have r5:=r4.keep hbc;have c0:=r5.c0;have c1:=r5.c1;have g0:=r5.f0;have g1:=r5.f1;have Mu:=aE hbc KA;have Nf:=aE hbc Kq;clear I8 hmc)
  | fail "ARMS"))
 all_goals
  have hr:=dE (w:=w) (w.heap.size+1) _ (.bool s) ω (Nat.lt_of_lt_of_le n3.size z4) hoc B5;generalize (Wh.a_ z.natAbs).length=KH at *;go_wp2;exact D_ results92 ⟨_,rfl,hr.1,hr.2⟩
namespace Wh
theorem xe:∀ (l:List Int) (j:Nat) (t y:Int),l[j]?=some t->val (l.set j y)=val l+10000 ^ j*(y - t)
 | [],j,t,y,h=>by simp at h
 | x :: l,0,t,y,h=>by
  obtain rfl:x=t:=by simpa using h
  show y+10000*val l=x+10000*val l+10000 ^ 0*(y - x)
  rw [Int.pow_zero];omega
 | x :: l,j+1,t,y,h=>by
  have h':l[j]?=some t:=by simpa using h
  show x+10000*val (l.set j y)=x+10000*val l+10000 ^ (j+1)*(y - t)
  rw [xe l j t y h',Int.pow_succ]
  grind
structure kA (a b o:List Int) (x:Int) (i k:Nat):Prop where
 len:o.length=a.length+b.length
 eq:val o=val (a.take i)*val b+10000 ^ i*(x*val (b.take k))
 bd:∀ (j:Nat) (t:Int),o[j]?=some t->0<=t/\t<=(if j<i+k then (i:Int)+1 else i)*99980001
theorem kA.step {a b o:List Int} {x y t:Int} {i k:Nat} (h:kA a b o x i k) (hx:lim x) (hb:bK b) (hy:b[k]?=some y) (ht:o[i+k]?=some t):(0<=t/\t<=(i:Int)*99980001)/\kA a b (o.set (i+k) (t+x*y)) x i (k+1):=by
 have hm:=rD hx (hb y (List.mem_of_getElem? hy));have hb0:=h.bd _ _ ht;rw [if_neg (Nat.lt_irrefl _)] at hb0;refine ⟨hb0,⟨by rw [List.length_set,h.len],?_,?_⟩⟩
 ·rw [xe o _ _ _ ht,h.eq,cR hy,Int.pow_add]
  grind
 intro j t' hj
 by_cases hjk:j=i+k
 ·subst hjk
  have hlt:=(List.getElem?_eq_some_iff.1 ht).1;rw [List.getElem?_set_self hlt] at hj;obtain rfl:=Option.some.inj hj;rw [if_pos ω];omega
 rw [List.getElem?_set_ne ω] at hj;have:=h.bd j t' hj
 by_cases hlt:j<i+k
 ·rw [if_pos hlt] at this;rw [if_pos ω];exact this
 rw [if_neg hlt] at this;rw [if_neg ω];exact this
theorem kA.row {a b o:List Int} {x:Int} {i:Nat} (h:kA a b o x i b.length) (hx:a[i]?=some x) (z:Int):kA a b o z (i+1) 0:=by
 refine ⟨h.len,?_,?_⟩
 ·rw [h.eq,List.take_length,cR hx]
  simp [val]
  grind
 intro j t hj;have:=h.bd j t hj
 have hi:((i+1:Nat):Int)=(i:Int)+1:=ω
 rw [hi]
 by_cases h1:j<i+1+0
 ·rw [if_pos h1]
  split at this <;> omega
 rw [if_neg h1]
 split at this <;> omega
theorem kA.start (a b:List Int) (x:Int):kA a b (List.replicate (a.length+b.length) 0) x 0 0:=by
 refine ⟨List.length_replicate,by rw [Cu];simp [val],?_⟩;intro j t hj;rw [List.getElem?_replicate] at hj
 split at hj
 ·obtain rfl:=Option.some.inj hj
  split <;> simp
 cases hj
structure mo (o0 o:List Int) (i:Nat) (c:Int):Prop where
 len:o.length=o0.length
 eq:val (o.take i)+10000 ^ i*c=val (o0.take i)
 rest:o.drop i=o0.drop i
 ls:bK (o.take i)
 c0:0<=c/\c<=1000000000
theorem mo.start (o:List Int):mo o o 0 0 where
 len:=rfl
 eq:=σ
 rest:=rfl
 ls:=fun x hx=>by simp at hx
 c0:=ω
theorem mo.GQ {o0 o:List Int} {i:Nat} {c:Int} (h:mo o0 o i c):o[i]?=o0[i]?:=by
 have:=congrArg (fun l:List Int=>l[0]?) h.rest
 simpa [List.getElem?_drop] using this
theorem mo.step {o0 o:List Int} {i:Nat} {c t:Int} (h:mo o0 o i c) (ht:o0[i]?=some t) (hb:0<=t/\t<=1000000000000):mo o0 (o.set i ((t+c) % 10000)) (i+1) ((t+c) / 10000):=by
 have hk:=(List.getElem?_eq_some_iff.1 ht).1;have hc:=h.c0
 have htk:(o.set i ((t+c) % 10000)).take i=o.take i:=by
  rw [List.take_set,List.set_eq_of_length_le (by rw [List.length_take];omega)]
 have hsk:(o.set i ((t+c) % 10000))[i]?=some ((t+c) % 10000):=List.getElem?_set_self (by rw [h.len];exact hk);refine ⟨by rw [List.length_set,h.len],?_,?_,?_,ω⟩
 ·rw [cR hsk,htk,cR ht,Int.pow_succ]
  have e:=h.eq;have hd:=Int.mul_ediv_add_emod (t+c) 10000;generalize (t+c) % 10000=r,(t+c) / 10000=q at *;generalize (10000:Int) ^ i=P at *;generalize val (o0.take i)=v2,val (o.take i)=v1 at *
  grind
 ·rw [List.drop_set_of_lt (Nat.lt_succ_self i)]
  have:=congrArg (List.drop 1) h.rest
  rwa [List.drop_drop,List.drop_drop] at this
 rw [List.take_add_one,hsk,htk]
 refine dH h.ls fun z hz=>?_
 simp only [Option.toList_some,List.mem_singleton] at hz;subst hz;unfold lim;omega
theorem mo.fin {o0 o:List Int} {n:Nat} {c v:Int} (h:mo o0 o n c) (hn:o0.length=n) (hv:val o0=v) (hlt:v<10000 ^ n):val o=v/\bK o:=by
 have e:=h.eq;have hl:=h.ls;have l1:=h.len;rw [List.take_of_length_le ω,List.take_of_length_le ω,hv] at e;rw [List.take_of_length_le ω] at hl;have o1:=db hl;have hp:=pow_pos n;have hc:=h.c0;refine ⟨?_,hl⟩
 by_cases h0:c=0
 ·subst h0;rw [Int.mul_zero] at e;omega
 have:=Int.mul_le_mul_of_nonneg_left (show 1<=c by omega) (Int.le_of_lt hp);omega
end Wh
theorem Wh.kA.chg {a b o:List Int} {x:Int} {i:Nat} (h:kA a b o x i 0) (z:Int):kA a b o z i 0:=
 ⟨h.len,by rw [h.eq];simp [val],h.bd⟩
theorem fR (a b:Int) (va vb:Value) (w:World) (ba bb:Nat) (hoa:aZ w ba va a) (JK:aZ w bb vb b) (hl1:(Wh.a_ a.natAbs).length<=10000) (hl2:(Wh.a_ b.natAbs).length<=10000) :
  Calls prog 189 #[.agg #[decide (a<0),va],.agg #[decide (b<0),vb]] w fun e w'=>∃ sl,e=.returned (.agg #[decide (a*b<0),sl])/\aZ w' w sl (a*b)/\Below w w w':=by
 obtain ⟨aa,s_,rfl,hma,hva⟩:=aF.seen hoa;obtain ⟨ab,Il,rfl,hmb,hvb⟩:=aF.seen JK;have hva:=IU hva;have hvb:=IU hvb;have hla:=IU (aj a.natAbs);have hlb:=IU (aj b.natAbs)
 have PT:=fun W v base ho=>jK (a*b) ((a.natAbs:Int)*(b.natAbs:Int)) ((Wh.a_ a.natAbs).length+(Wh.a_ b.natAbs).length+1) (decide (a<0) != decide (b<0)) v W base ho ω (ws a b)
 have hpr:Hid (∀ (x y:List Int),x=Wh.a_ a.natAbs->y=Wh.a_ b.natAbs->Wh.val x*Wh.val y=(a.natAbs:Int)*(b.natAbs:Int)):=IU fun x y h1 h2=>by rw [h1,h2,bM,bM]
 have hpr:=IU (hpr.out _ _ rfl rfl);generalize decide (b<0)=s2,decide (a<0)=s1 at *;generalize (a.natAbs:Int)*(b.natAbs:Int)=y at *;generalize a*b=z at *;generalize Wh.a_ b.natAbs=ys,Wh.a_ a.natAbs=xs,decide (z<0)=s at *;clear hma hmb hoa JK;obtain ⟨w3,hw3,b1,b2,b3,hB⟩:=iF w (.bool s1) (.slice aa xs.length s_) 116 (.bool s2) (.slice ab ys.length Il) 116 (.bool false) (.slice none 0 0) 116;obtain ⟨w4,hrun,hown1,hg1⟩:=oR w3 (xs.length+ys.length) ω;rw [show ((xs.length+ys.length:Nat):Int)=(xs.length:Int)+(ys.length:Int) by omega] at hrun;have hb4:Below w3 w3 w4:=bS hg1 (IY _) (fun k hk=>by cases hk);have hB3:=IU hB;have e2:=b1.c1;have e4:=b2.c1;have k2:=b1.keep hb4;have k4:=b2.keep hb4;have f2:=k2.c1;have f4:=k4.c1;clear hg1;go_enter func189,ntmps189
 go_wp2;have Lu:=IU b1;have Lv:=IU b2;have O6:=IU b3;clear e2 e4 k2 k4 f2 f4 b1 b2 b3 hB
 go_loopw [6,7,8,9,24] (fun _ _ _ _ vi wr=>∃ (i:Nat) (o:List Int),i<=xs.length/\vi=.int .i64 i/\aF wr w3 (.slice (some ⟨w3,0,none⟩) (xs.length+ys.length) (xs.length+ys.length)) o/\kA xs ys o 0 i 0/\Below w3 w3 wr) (fun _ _ _ _ vi _=>xs.length - (intOf vi).toNat)
 case atStart=>exact ⟨0,List.replicate (xs.length+ys.length) 0,Nat.zero_le _,rfl,hown1,kA.start xs ys 0,hb4⟩
 case round=>
 clear hown1 hb4;obtain ⟨i,o,hi,rfl,hown,hsi,hbr⟩:=hrel;have c1:=Lu.out.eN hbr Lu.out.size;have c2:=Lv.out.eN hbr Lv.out.size;have c3:=O6.out.eN hbr O6.out.size;have hwr:Below w w wr:=hB3.out.trans (hbr.mono hB3.out.size)
 by_cases hlt:i<xs.length
 ·obtain ⟨ga,x,ea,hga,hxa,hca⟩:=hva.out i hlt
  subst ea;have L5:=aE hwr hca;have hlx:=IU (hla.out x (List.mem_of_getElem? hxa.out));have hsx:=hsi.chg x;have d2:=c1.c1;have d4:=c2.c1;clear hca c1 c2 c3 hwr hsi;go_wp2
  go_loopw [8,9,32] (fun _ _ vk wq=>∃ (k:Nat) (p:List Int),k<=ys.length/\vk=.int .i64 k/\aF wq w3 (.slice (some ⟨w3,0,none⟩) (xs.length+ys.length) (xs.length+ys.length)) p/\kA xs ys p x i k/\Below w3 w3 wq) (fun _ _ vk _=>ys.length - (intOf vk).toNat)
  case atStart=>exact ⟨0,o,Nat.zero_le _,rfl,hown,hsx,hbr⟩
  case round=>
  clear hown hbr L5 d2 d4 hsx;obtain ⟨k,p,hk,rfl,hown,hsi,hbq⟩:=hrel;have hwq:Below w w wr:=hB3.out.trans (hbq.mono hB3.out.size)
  by_cases hkt:k<ys.length
  ·obtain ⟨gb,yb,eb,hgb,hxb,hcb⟩:=hvb.out k hkt
   subst eb;have hcb:=aE hwq hcb;have hpl:=hsi.len
   obtain ⟨t,ht⟩:∃ t,p[i+k]?=some t:=⟨_,List.getElem?_eq_getElem ω⟩
   have hS:=hsi.step hlx.out hlb.out hxb.out ht;have hm:=rD hlx.out (hlb.out yb (List.mem_of_getElem? hxb.out));have hc0:=aF.cellAt hpl.symm hown ht;have hf0:wr.frozen? ⟨w3,i+k,none⟩=false:=gK hpl hown (i+k);have hO:=IU (aF.set (j:=i+k) hpl.symm hown (t+x*yb) rfl);have htb:=hS.1;have hS2:=IU hS.2;have JC:=IU hbq;have Sa:w3.heap.size<wr.heap.size:=World.block_lt_of_cell? wr _ hc0;clear hS hsi hpl ht hown hxb;generalize hpb:x*yb=pb at *;go_wp2
   go_roundw
   case rel=>exact ⟨k+1,_,ω,ν,hO.out.1,hS2.out,JC.out.setCell (IY _) _⟩
   case measure=>simp [intOf];omega
  obtain rfl:k=ys.length:=ω
  have hrow:=IU (hsi.row hxa.out 0);have hown:=IU hown;clear hsi;go_wp2
  go_roundw
  case rel=>exact ⟨i+1,p,ω,ν,hown.out,hrow.out,hbq⟩
  case measure=>simp [intOf];omega
 obtain rfl:i=xs.length:=ω
 have QY:Hid (Wh.val o=y):=IU (by rw [hsi.eq,List.take_length,←hpr.out];simp [Wh.val]);have hyb:Hid (y<10000 ^ (xs.length+ys.length)):=IU (by rw [←hpr.out];exact xJ hla.out hlb.out (IY _))
 have hbd:Hid (∀ (j:Nat) (t:Int),o[j]?=some t->0<=t/\t<=1000000000000):=IU fun j t hj=>by
  have:=hsi.bd j t hj
  split at this <;> omega
 have hol:=IU hsi.len;have d1:=c1.c0;have d3:=c2.c0;clear hsi;go_wp2;clear d1 d3 c1 c2 c3 hwr
 go_loopw [10,11,12,52] (fun vc _ _ vi wq=>∃ (j:Nat) (p:List Int) (c:Int),j<=(xs.length+ys.length)/\vi=.int .i64 j/\vc=.int .i64 c/\aF wq w3 (.slice (some ⟨w3,0,none⟩) (xs.length+ys.length) (xs.length+ys.length)) p/\mo o p j c/\Below w3 w3 wq) (fun _ _ _ vi _=>(xs.length+ys.length) - (intOf vi).toNat)
 case atStart=>exact ⟨0,o,0,Nat.zero_le _,rfl,rfl,hown,mo.start o,hbr⟩
 case round=>
 clear hown hbr;obtain ⟨j,p,c,hj,rfl,rfl,hown,hki,hbq⟩:=hrel
 by_cases hjt:j<(xs.length+ys.length)
 ·obtain ⟨t,ht⟩:∃ t,o[j]?=some t:=⟨_,List.getElem?_eq_getElem (by rw [hol.out];exact hjt)⟩
  have hpl:=hki.len.trans hol.out;have hpk:=hki.GQ.trans ht;have hc0:=aF.cellAt hpl.symm hown hpk;have hf0:wr.frozen? ⟨w3,j,none⟩=false:=gK hpl hown j;have htb:=hbd.out _ _ ht;have hcr:=hki.c0;have hS2:=IU (hki.step ht htb);have hO:=IU (aF.set (j:=j) hpl.symm hown ((t+c) % 10000) rfl);have t1:Int.tmod (t+c) 10000=(t+c) % 10000:=Int.tmod_eq_emod_of_nonneg ω;have t2:Int.tdiv (t+c) 10000=(t+c) / 10000:=Int.tdiv_eq_ediv_of_nonneg ω
  have hrr:0<=(t+c) % 10000/\(t+c) % 10000<10000:=ω
  have hqq:0<=(t+c) / 10000/\(t+c) / 10000<=1000000000:=ω
  have JC:=IU hbq;have Sa:w3.heap.size<wr.heap.size:=World.block_lt_of_cell? wr _ hc0;clear hki hpl hpk ht hown;generalize (t+c) / 10000=qq,(t+c) % 10000=r at *;go_wp2
  go_roundw
  case rel=>exact ⟨j+1,_,_,ω,ν,ν,hO.out.1,hS2.out,JC.out.setCell (IY _) _⟩
  case measure=>simp [intOf];omega
 have e:j=(xs.length+ys.length):=ω
 subst e;have hf:=hki.fin hol.out QY.out hyb.out;have hpl:=hki.len.trans hol.out;have hov:Hid (mu wr w3 (.slice (some ⟨w3,0,none⟩) (xs.length+ys.length) (xs.length+ys.length)) y (xs.length+ys.length+1)):=IU ⟨p,hown,hf.2,hf.1,by rw [hpl];omega⟩;have c1:=Lu.out.eN hbq Lu.out.size;have c2:=Lv.out.eN hbq Lv.out.size;have c3:=O6.out.eN hbq O6.out.size;have hwr:Below w w wr:=hB3.out.trans (hbq.mono hB3.out.size);have d1:=c1.c0;have d3:=c2.c0;clear hki hown hf hpl;rw [show (s1 != s2)=!(s1 == s2) from rfl] at PT;have PT:=IU PT
 go_wp2_with (go_at_call 196;(with_reducible refine (PT.out _ _ _ hov.out).mono ?_);rintro e w5 ⟨vc,rfl,hoc,hbc⟩;obtain ⟨ac,Ic,rfl,hmc,I8⟩:=aF.view hoc;have r5:=c3.keep hbc;have p0:=r5.c0;have p1:=r5.c1;have g0:=r5.f0;have g1:=r5.f1;clear I8 hmc)
 have hr:=dE (w:=w) (w.heap.size+1+1) _ (.bool s) ω c3.size hoc (j_ hwr hbc);generalize (Wh.a_ z.natAbs).length=KH at *;exact D_ results189 ⟨_,rfl,hr.1,hr.2⟩
theorem fW (a n:Int) (va:Value) (w:World) (ba:Nat) (hoa:aZ w ba va a) (hl1:(Wh.a_ a.natAbs).length<=10000) (hn1:-1000000000000000000<=n) (hn2:n<=1000000000000000000) :
  Calls prog 190 #[.agg #[decide (a<0),va],n] w fun e w'=>∃ sl,e=.returned (.agg #[decide (a*n<0),sl])/\aZ w' w sl (a*n)/\Below w w w':=by
 obtain ⟨aa,s_,rfl,-,-⟩:=aF.view hoa;have hnl:(Wh.a_ n.natAbs).length<=10000:=Nat.le_trans (dw (k:=5) ω) δ
 have PM:=fun W=>nL n W hn1 hn2
 have PA:=fun Ot W bb' (h1:aF W ba (.slice aa (Wh.a_ a.natAbs).length s_) (Wh.a_ a.natAbs)) (h2:aZ W bb' Ot n)=>fR a n (.slice aa (Wh.a_ a.natAbs).length s_) Ot W ba bb' h1 h2 hl1 hnl
 have LJ:Hid (∀ W,Below w w W->aF W ba (.slice aa (Wh.a_ a.natAbs).length s_) (Wh.a_ a.natAbs)):=IU fun W h=>aF.below hoa h
 clear hoa hnl hn1 hn2;generalize Wh.a_ a.natAbs=xs,a*n=z,decide (a<0)=s1 at *;generalize decide (n<0)=s3,decide (z<0)=s,xs.length=l1 at *;have PM:=IU PM;have PA:=IU PA;have n1:=(aw.new w (.bool s1) (.slice aa l1 s_) 116).alloc (.cells #[false,.slice none 0 0] 116);have n3:=aw.new2 w (.cells #[s1,.slice aa l1 s_] 116) (.bool false) (.slice none 0 0) 116;have Bn:=((IX w w).alloc (IY _) (.cells #[s1,.slice aa l1 s_] 116)).alloc (by rw [IV];omega) (.cells #[false,.slice none 0 0] 116);generalize hw3:(w.alloc (.cells #[s1,.slice aa l1 s_] 116)).alloc (.cells #[false,.slice none 0 0] 116)=w3 at *;have e1:=n1.c0;have e2:=n1.c1;go_enter func190,ntmps190
 go_wp2
 go_region_held3 (fun W=>W.cell? ⟨w,0,none⟩=some (.bool s1)/\W.cell? ⟨w,1,none⟩=some (.slice aa l1 s_)) (first | exact ⟨hlA,hlA⟩ | (go_split_ands;exact ⟨hlA,hlA⟩) | go_keep) ((first
  | (go_at_call 177;(with_reducible refine (PM.out _).mono ?_);rintro e w4 ⟨v4,rfl,Iq,hb4⟩;have B4:=Bn.drew.trans (hb4.mono Bn.size);have r4:=n3.drew.keep hb4;have KA:=aE hb4 (ag e1);have Kq:=aE hb4 (ag e2);(have z4:w3.heap.size<=w4.heap.size:=hb4.size))
  | (go_at_call 189;(with_reducible refine (PA.out _ _ _ (LJ.out _ B4) Iq).mono ?_);rintro e w5 ⟨vc,rfl,hoc,hbc⟩;obtain ⟨ac,Ic,rfl,hmc,I8⟩:=aF.view hoc;have B5:=j_ B4 hbc;have r5:=r4.keep hbc;have c0:=r5.c0;have c1:=r5.c1;have g0:=r5.f0;have g1:=r5.f1;have Mu:=aE hbc KA;have Nf:=aE hbc Kq;clear I8 hmc)
  | fail "ARMS"))
 all_goals
  have hr:=dE (w:=w) (w.heap.size+1) _ (.bool s) ω (Nat.lt_of_lt_of_le n3.size z4) hoc B5;generalize (Wh.a_ z.natAbs).length=KH at *;go_wp2;exact D_ results190 ⟨_,rfl,hr.1,hr.2⟩
theorem fp (a n:Int) (va:Value) (w:World) (ba:Nat) (hoa:aZ w ba va a) (hl:(Wh.a_ a.natAbs).length<=9000) (hn1:1<=n) (hn2:n<=1000000000000) :
  Calls prog 194 #[.agg #[decide (a<0),va],n] w fun e w'=>∃ sl,e=.returned (.tuple #[.agg #[decide (a / n<0),sl],(a % n:Int)])/\aZ w' w sl (a / n)/\Below w w w':=by
 obtain ⟨aa,s_,rfl,hma,hva⟩:=aF.seen hoa;have hva:=IU hva;have hla:=IU (aj a.natAbs);have hvl:=IU (bM a.natAbs)
 have hq0:=fun s=>wH (a:=a) (n:=n) s ω
 have PT:=fun s W v base ho=>jK (Wh.JS s ((a.natAbs:Int) / n)) ((a.natAbs:Int) / n) (Wh.a_ a.natAbs).length s v W base ho ω rfl
 have d0:=fun h=>Ad (a:=a) (n:=n) h
 have d1:=fun h h'=>Aa (a:=a) (n:=n) ω h h'
 have d2:=fun h h'=>Ac (a:=a) (n:=n) ω h h'
 have d0:=IU d0;have d1:=IU d1;have d2:=IU d2;clear hma hoa
 obtain ⟨s1,hs1⟩:∃ s,decide (a<0)=s:=⟨_,rfl⟩
 rw [hs1];have hs1:=IU hs1;generalize a % n=zr,a / n=z at *;generalize hab:(a.natAbs:Int)=A at *;have Jc:Hid (Wh.val (Wh.a_ a.natAbs)=A):=hvl;clear hvl hab;generalize Wh.a_ a.natAbs=xs at *
 obtain ⟨s,hsd⟩:∃ s,Hid (decide (z<0)=s):=⟨_,IU rfl⟩
 rw [hsd.out];have b1:=(aw.new w (.bool s1) (.slice aa xs.length s_) 116).alloc (.cells #[false,.slice none 0 0] 116);have b2:=aw.new2 w (.cells #[s1,.slice aa xs.length s_] 116) (.bool false) (.slice none 0 0) 116;have hB:=((IX w w).alloc (IY _) (.cells #[s1,.slice aa xs.length s_] 116)).alloc (by rw [IV];omega) (.cells #[false,.slice none 0 0] 116);generalize hw3:(w.alloc (.cells #[s1,.slice aa xs.length s_] 116)).alloc (.cells #[false,.slice none 0 0] 116)=w3 at *;obtain ⟨w4,hrun,hown1,hg1⟩:=oR w3 xs.length ω;have hb4:Below w3 w3 w4:=bS hg1 (IY _) (fun k hk=>by cases hk);have hB3:=IU hB;have e2:=b1.c1;have Lu:=IU b1;have Lv:=IU b2;have TZ:=(b1.keep hb4).c1;clear hg1 b2 hB;go_enter func194,ntmps194
 go_wp2;clear e2 b1 TZ
 go_loopw [7,8] (fun vr vi wr=>∃ (k:Nat) (q:List Int) (r:Int),k<=xs.length/\vi=.int .i64 ((k:Int) - 1)/\vr=.int .i64 r/\aF wr w3 (.slice (some ⟨w3,0,none⟩) xs.length xs.length) q/\ml xs q n k r/\Below w3 w3 wr) (fun _ vi _=>(intOf vi+1).toNat)
 case atStart=>exact ⟨xs.length,List.replicate xs.length 0,0,IY _,rfl,rfl,hown1,ml.start ω List.length_replicate,hb4⟩
 case round=>
 clear hown1 hb4;obtain ⟨k,q,r,hk,rfl,rfl,hown,hdi,hbr⟩:=hrel;have c1:=Lu.out.eN hbr Lu.out.size;have c2:=Lv.out.eN hbr Lv.out.size;have hwr:Below w w wr:=hB3.out.trans (hbr.mono hB3.out.size)
 cases k with
 | zero=>
  have hf:=hdi.fin;rw [Jc.out] at hf;obtain ⟨hq1,rfl,hq3⟩:=hf;have hov:Hid (mu wr w3 (.slice (some ⟨w3,0,none⟩) xs.length xs.length) (A / n) xs.length):=IU ⟨q,hown,hq3,hq1,by rw [hdi.len];exact IY _⟩;have hd0:=c1.c0;clear hdi hown hq1 hq3;cases s1
  ·have hna:¬ a<0:=by have:=hs1.out;simpa using this
   obtain ⟨hz1,hz2⟩:=d0.out ω;have PT:=PT false;rw [hz1] at PT;rw [hsd.out] at PT;have PT:=IU PT;rw [hz2]
   go_wp2_with (go_at_call 196;(with_reducible refine (PT.out _ _ _ hov.out).mono ?_);rintro e w5 ⟨vc,rfl,hoc,hbc⟩;obtain ⟨ac,Ic,rfl,hmc,I8⟩:=aF.view hoc;have r5:=c2.keep hbc;have b5:=c1.keep hbc;have p0:=r5.c0;have p1:=r5.c1;have g0:=r5.f0;have g1:=r5.f1;have z5:=r5.size;have y5:=b5.size;have x0:=b5.c0;clear I8 hmc)
   have hr0:=dE (w:=w) (w2:=w5) (w.heap.size+1) _ (.bool s) ω c2.size hoc (j_ hwr hbc);have hr1:=aF.alloc hr0.1 (.cells #[s,.slice ac (Wh.a_ z.natAbs).length Ic] 116);have hr2:=hr0.2.alloc hr0.2.size (.cells #[s,.slice ac (Wh.a_ z.natAbs).length Ic] 116);generalize (Wh.a_ z.natAbs).length=KH at *;exact D_ results194 ⟨_,rfl,hr1,hr2⟩
  have hna:a<0:=by have:=hs1.out;simpa using this
  by_cases hrz:A % n=0
  ·skip
   obtain ⟨hz1,hz2⟩:=d1.out hna hrz;have PT:=PT true;rw [hz1] at PT;rw [hsd.out] at PT;have PT:=IU PT;rw [hz2] at hrz ⊢
   go_wp2_with (go_at_call 196;(with_reducible refine (PT.out _ _ _ hov.out).mono ?_);rintro e w5 ⟨vc,rfl,hoc,hbc⟩;obtain ⟨ac,Ic,rfl,hmc,I8⟩:=aF.view hoc;have r5:=c2.keep hbc;have b5:=c1.keep hbc;have p0:=r5.c0;have p1:=r5.c1;have g0:=r5.f0;have g1:=r5.f1;have z5:=r5.size;have y5:=b5.size;have x0:=b5.c0;clear I8 hmc)
   have hr0:=dE (w:=w) (w2:=w5) (w.heap.size+1) _ (.bool s) ω c2.size hoc (j_ hwr hbc);have hr1:=aF.alloc hr0.1 (.cells #[s,.slice ac (Wh.a_ z.natAbs).length Ic] 116);have hr2:=hr0.2.alloc hr0.2.size (.cells #[s,.slice ac (Wh.a_ z.natAbs).length Ic] 116);generalize (Wh.a_ z.natAbs).length=KH at *;exact D_ results194 ⟨_,rfl,hr1,hr2⟩
  obtain ⟨hz1,hz2⟩:=d2.out hna hrz;have PT:=PT true;have hq1:=hq0 true
  have RF:0<A % n:=by have:=Int.emod_nonneg A (show n≠0 by omega);omega
  have hrn:A % n<n:=Int.emod_lt_of_pos _ ω;generalize A % n=rr,Wh.JS true (A / n)=y0 at *
  have PW:=fun W=>nL 1 W ω ω
  have PA:=fun va vb W ba bb (h1:aF W ba va (Wh.a_ y0.natAbs)) (h2:aF W bb vb (Wh.a_ (1:Int).natAbs))=>qQ y0 1 va vb W ba bb h1 h2 ω (by have:=lw;rw [Int.natAbs_neg] at this;omega)
  rw [decide_eq_false (show ¬ (1:Int)<0 by decide)] at PW PA;rw [show y0 - 1=z by omega,hsd.out] at PA;have Xf:=RF
  obtain ⟨s0,hs0⟩:∃ s0,decide (y0<0)=s0:=⟨_,rfl⟩
  rw [hs0] at PT PA;have PT:=IU PT;have PW:=IU PW;have PA:=IU PA;replace hz2:=IU hz2;clear hz1 hs0 hq0 hq1 d0 d1 d2 hrz
  go_wp2_with (go_at_call 196;(with_reducible refine (PT.out _ _ _ hov.out).mono ?_);rintro e w5 ⟨vc,rfl,hoc,hbc⟩;obtain ⟨ac,Ic,rfl,hmc,I8⟩:=aF.view hoc;have r5:=c2.keep hbc;have b5:=c1.keep hbc;have p0:=r5.c0;have p1:=r5.c1;have g0:=r5.f0;have g1:=r5.f1;have z5:=r5.size;have y5:=b5.size;have x0:=b5.c0;clear I8 hmc)
  have bt:=aw.new w5 (.bool s0) (.slice ac (Wh.a_ y0.natAbs).length Ic) 116;have r6:=r5.alloc (.cells #[s0,.slice ac (Wh.a_ y0.natAbs).length Ic] 116);have QK:=aF.alloc hoc (.cells #[s0,.slice ac (Wh.a_ y0.natAbs).length Ic] 116);have B6:=(j_ hwr hbc).alloc (by have:=(j_ hwr hbc).size;omega) (.cells #[s0,.slice ac (Wh.a_ y0.natAbs).length Ic] 116);have u0:=bt.c0;have u1:=bt.c1;have zz:w5.heap.size<(w5.alloc (.cells #[s0,.slice ac (Wh.a_ y0.natAbs).length Ic] 116)).heap.size:=bt.size;generalize (Wh.a_ y0.natAbs).length=l0,w5.alloc (.cells #[s0,.slice ac (Wh.a_ y0.natAbs).length Ic] 116)=w6 at *;clear p0 p1 g0 g1 x0
  go_region_held3 (fun W=>W.cell? ⟨w5,0,none⟩=some (.bool s0)/\W.cell? ⟨w5,1,none⟩=some (.slice ac l0 Ic)) (first | exact ⟨hlA,hlA⟩ | (go_split_ands;exact ⟨hlA,hlA⟩) | go_keep) ((first
   | (go_at_call 177;(with_reducible refine (PW.out _).mono ?_);rintro e w7 ⟨v7,rfl,Lf,Ig⟩;(have QJ:aF _ _ _ (Wh.a_ (1:Int).natAbs):=Lf);have Ou:=aE Ig (ag u0);have KA:=aE Ig (ag u1);have r7:=r6.drew.keep Ig;have B7:=B6.drew.trans (Ig.mono B6.size);have QL:=aF.below (aF.below QK (IX _ _).drew) Ig;(have z7:w6.heap.size<=w7.heap.size:=Ig.size))
   | (go_at_call 202;(with_reducible refine (PA.out _ _ _ _ _ QL QJ).mono ?_);rintro e w8 ⟨v8,rfl,Jb,It⟩;obtain ⟨a8,Pj,rfl,SM,YD⟩:=aF.view Jb;have y0_:=aE It Ou;have Mu:=aE It KA;have r8:=r7.keep It;have p0:=r8.c0;have p1:=r8.c1;have g0:=r8.f0;have g1:=r8.f1;have B8:=j_ B7 It;clear YD SM)
   | fail "ARMS"))
  all_goals
   have hr:=dE (w:=w) (w.heap.size+1) _ (.bool s) ω r7.size Jb B8;generalize (Wh.a_ z.natAbs).length=KH at *;go_wp2
   have hwz:IntKind.i64.wrap (n - rr)=n - rr:=by
    rw [IntKind.wrap_i64];omega
   exact D_ (v:=.tuple #[.agg #[s,.slice a8 KH Pj],(n - rr:Int)]) results194 ⟨_,by rw [hz2.out],hr.1,hr.2⟩
 | succ j=>
 obtain ⟨ga,x,ea,hga,hxa,hca⟩:=hva.out j ω;subst ea;have hca:=aE hwr hca;have hr0:=hdi.r0;have hlx:=hla.out x (List.mem_of_getElem? hxa.out);unfold Wh.lim at hlx;have hS:=hdi.step hla.out hxa.out hn2;have hy:=hS.1;have t1:Int.tdiv (r*10000+x) n=(r*10000+x) / n:=Int.tdiv_eq_ediv_of_nonneg hy.1;have t2:Int.tmod (r*10000+x) n=(r*10000+x) % n:=Int.tmod_eq_emod_of_nonneg hy.1;have hpl:=hdi.len;have hqk:q[j]?=some q[j]:=List.getElem?_eq_getElem ω;have hc0:=aF.cellAt hpl.symm hown hqk;have hf0:wr.frozen? ⟨w3,j,none⟩=false:=gK hpl hown j;have hO:=IU (aF.set (j:=j) hpl.symm hown ((r*10000+x) / n) rfl);have hS2:=IU hS.2;have JC:=IU hbr;have f2:=c1.c1;have Sa:w3.heap.size<wr.heap.size:=World.block_lt_of_cell? wr _ hc0
 have hdb:-1000000000000<=(r*10000+x) / n/\(r*10000+x) / n<=10000000000000000:=by
  have h1:=Int.ediv_nonneg hy.1 (show 0<=n by omega);have h2:=Int.ediv_le_self n hy.1;omega
 have hmb:0<=(r*10000+x) % n/\(r*10000+x) % n<n:=⟨Int.emod_nonneg _ ω,Int.emod_lt_of_pos _ ω⟩
 generalize (r*10000+x) % n=yr,(r*10000+x) / n=yq,q[j]=qj at *;clear hS hdi hpl hqk hown c1 c2 hxa;go_wp2
 go_roundw
 case rel=>exact ⟨j,_,_,ω,ν,ν,hO.out.1,hS2.out,JC.out.setCell (IY _) _⟩
 case measure=>first | (simp [intOf];done) | (simp [intOf];omega)
namespace Wh
def bl (n:Nat):Nat:=if n=0 then 0 else Nat.log2 n+1
theorem DA:bl 0=0:=rfl
theorem qS {n:Nat} (h:n≠0):bl n=bl (n / 2)+1:=by
 unfold bl;rw [if_neg h,Nat.log2_def]
 by_cases h2:2<=n
 ·rw [if_pos h2,if_neg ω]
 rw [if_neg h2,if_pos ω]
theorem nO:∀ (k n:Nat),2 ^ k<=n->bl n=bl (n / 2 ^ k)+k
 | 0,n,_=>σ
 | k+1,n,h=>by
  have hp:0<2 ^ k:=Nat.pow_pos δ
  have h1:2 ^ k<=n / 2:=by
   rw [Nat.pow_succ] at h;exact (Nat.le_div_iff_mul_le δ).2 h
  rw [qS (n:=n) (by rw [Nat.pow_succ] at h;omega),nO k (n / 2) h1,Nat.div_div_eq_div_mul,Nat.pow_succ,Nat.mul_comm 2];omega
theorem z8 (n:Nat) (h:n<18446744073709551616):Lib.bitLen n=bl n:=by
 induction n using Nat.strongRecOn with
 | ind n ih=>
 by_cases h0:n=0
 ·subst h0;rfl
 rw [Lib.bitLen_half n h0 h,qS h0,ih (n / 2) ω ω];omega
theorem uL {l:List Int} (h:bK l) (k:Nat):val (l.drop k)<=val l:=by
 have e:=iT (l.take k) (l.drop k);rw [List.take_append_drop] at e;have h1:=db (gh h k);have h2:=db (lJ h k);have h3:=Int.mul_le_mul_of_nonneg_right (show (1:Int)<=10000 ^ (l.take k).length by have:=pow_pos (l.take k).length;omega) h2;omega
theorem wF {n k:Nat} (h:k<(a_ n).length):10000 ^ k<=n:=by
 by_cases h':n<10000 ^ k
 ·have:=dw h';omega
 omega
theorem k8 {n k:Nat} (h:(a_ n).length<=k):(n:Int)<10000 ^ k:=by
 have h1:=gT (aj n);rw [bM] at h1;have:=lR h;omega
end Wh
theorem aF.past {w:World} {base c:Nat} {sl:Value} {xs:List Int} (h:aF w base sl xs) (hc:c<base) (u v:Value):aF ((w.setCell ⟨c,0,none⟩ u).setCell ⟨c,1,none⟩ v) base sl xs:=by
 refine World.ownsRow.kept h (dI w c u v) ?_
 cases hs:sl.ownBlock with
 | none=>exact Or.inl rfl
 | some g=>
 right
 intro e
 injection e with e
 have:=(aF.lt h g hs).1;omega
theorem lj (a:Int) (sl:Value) (w:World) (base:Nat) (ho:aZ w base sl a) (hl:(Wh.a_ a.natAbs).length<=1000000) :
  Calls prog 184 #[.agg #[decide (a<0),sl]] w fun e w'=>∃ sl',e=.returned (.agg #[false,sl'])/\aF w' w sl' (Wh.a_ a.natAbs)/\Below w w w':=by
 refine (uT a sl w base ho hl).mono fun e w' ⟨sl',h1,h2,h3⟩=>⟨sl',?_,?_,h3⟩
 ·rw [h1,decide_eq_false (show ¬ ((a.natAbs:Int)<0) by omega)]
 unfold aZ at h2
 rwa [Int.natAbs_natCast] at h2
theorem ly (m n:Nat) (va:Value) (w:World) (ba:Nat) (hoa:aF w ba va (Wh.a_ m)) (hl:(Wh.a_ m).length<=9000) (hn1:1<=n) (hn2:n<=1000000000000) :
  Calls prog 181 #[.agg #[false,va],.int .i64 (n:Int)] w fun e w'=>∃ sl,e=.returned (.tuple #[.agg #[false,sl],.int .i64 ((m % n:Nat):Int)])/\aF w' w sl (Wh.a_ (m / n))/\Below w w w':=by
 have h:=jv (m:Int) (n:Int) va w ba (by unfold aZ;rwa [Int.natAbs_natCast]) (by rwa [Int.natAbs_natCast]) ω ω;rw [decide_eq_false (show ¬ ((m:Int)<0) by omega)] at h
 refine h.mono fun e w' ⟨sl',h1,h2,h3⟩=>⟨sl',?_,?_,h3⟩
 ·rw [h1,decide_eq_false (show ¬ ((m:Int) / (n:Int)<0) by have:=Int.ediv_nonneg (a:=(m:Int)) (b:=(n:Int)) ω ω;omega),←Int.natCast_emod]
 unfold aZ at h2
 rwa [←Int.natCast_ediv,Int.natAbs_natCast] at h2
theorem sR (a:Int) (va:Value) (w:World) (ba:Nat) (hoa:aZ w ba va a) (hl:(Wh.a_ a.natAbs).length<=9000) (hbl:Wh.bl a.natAbs<=1000000) :
  cB 169 #[.agg #[decide (a<0),va]] w (.int .i64 (Wh.bl a.natAbs:Nat)):=by
 obtain ⟨aa,s_,rfl,-,-⟩:=aF.view hoa
 have PA:=fun W (h:aF W ba (.slice aa (Wh.a_ a.natAbs).length s_) (Wh.a_ a.natAbs))=>lj a (.slice aa (Wh.a_ a.natAbs).length s_) W ba h ω
 have PD:=fun (m:Nat) (hm:(Wh.a_ m).length<=9000) va W b (h:aF W b va (Wh.a_ m))=>ly m 67108864 va W b h hm ω ω
 rw [show ((67108864:Nat):Int)=67108864 from rfl] at PD;replace PD:=IU PD;generalize decide (a<0)=s1 at *;replace hoa:=IU (show aF _ _ _ _ from hoa);generalize a.natAbs=N at *;have b1:=aw.new w (.bool s1) (.slice aa (Wh.a_ N).length s_) 116;have hB:=(IX w w).alloc (IY _) (.cells #[s1,.slice aa (Wh.a_ N).length s_] 116);have ho1:=aF.alloc hoa.out (.cells #[s1,.slice aa (Wh.a_ N).length s_] 116);generalize hw3:w.alloc (.cells #[s1,.slice aa (Wh.a_ N).length s_] 116)=w3 at *;replace PA:=IU PA;have e1:=b1.c0;have e2:=b1.c1;have hz3:=b1.size;go_enter func169,ntmps169
 go_wp2_with (go_at_call 184;(with_reducible refine (PA.out _ ho1).mono ?_);rintro e w4 ⟨v4,rfl,Iq,hb4⟩;obtain ⟨a4,cap4,rfl,RD,hv4⟩:=aF.view Iq;have r4:=b1.keep hb4;have c0:=r4.c0;have c1:=r4.c1;have g0:=r4.f0;have g1:=r4.f1;clear hv4 RD)
 have rs:=r4.store (.bool false) (.slice a4 (Wh.a_ N).length cap4);have os:=aF.past (aF.base (base':=w.heap.size+1) Iq ω) (Nat.lt_succ_self _) (.bool false) (.slice a4 (Wh.a_ N).length cap4);have Bs:=((j_ hB hb4).setCell (p:=⟨w,0,none⟩) (IY _) (.bool false)).setCell (p:=⟨w,1,none⟩) (IY _) (.slice a4 (Wh.a_ N).length cap4);clear r4 c0 c1 g0 g1 e1 e2 Iq hb4 b1 hB ho1
 go_loopw [3] (fun vb wr=>∃ (m c:Nat) (ax:Option Addr) (cx:Nat),vb=.int .i64 c/\c+Wh.bl m=Wh.bl N/\(Wh.a_ m).length<=(Wh.a_ N).length/\Hid (aw wr w (.bool false) (.slice ax (Wh.a_ m).length cx))/\aF wr (w.heap.size+1) (.slice ax (Wh.a_ m).length cx) (Wh.a_ m)/\Below w w wr) (fun vb _=>Wh.bl N - (intOf vb).toNat)
 case atStart=>exact ⟨N,0,a4,cap4,rfl,Nat.zero_add _,IY _,IU rs,os,Bs⟩
 case round=>
 clear rs os Bs;obtain ⟨m,c,ax,cx,rfl,hc,hml,JN,hown,hbr⟩:=hrel;have c0:=JN.out.c0;have c1:=JN.out.c1;have Kp:=JN.out.size
 by_cases h2:2<(Wh.a_ m).length
 ·have hbig:=wF h2
  have hsh:=nO 26 m ω;rw [show 2 ^ 26=67108864 from rfl] at hsh;have XX:=fT (Nat.div_le_self m 67108864);have PX:=PD.out m ω;have PX:=IU PX;generalize m % 67108864=rr,m / 67108864=m2 at *;have hown:=IU hown;clear hbig;generalize hlm:(Wh.a_ m).length=lm at *
  go_wp2_with (go_at_call 181;(with_reducible refine (PX.out _ _ _ hown.out).mono ?_);rintro e w5 ⟨v5,rfl,JU,hb5⟩;obtain ⟨a5,cap5,rfl,N9,hv5⟩:=aF.view JU;have r5:=JN.out.keep hb5;have d0:=r5.c0;have d1:=r5.c1;have g0:=r5.f0;have g1:=r5.f1;clear hv5 N9)
  go_roundw
  case rel=>exact ⟨m2,c+26,a5,cap5,ν,ω,ω,IU (r5.store _ _),aF.past (aF.base JU ω) (Nat.lt_succ_self _) _ _,((j_ hbr hb5).setCell (IY _) _).setCell (IY _) _⟩
  case measure=>simp [intOf];omega
 have hsm:=k8 (n:=m) (k:=2) ω
 have SM:(m:Int)<=99999999:=by
  have:(10000:Int) ^ 2=100000000:=δ
  omega
 have hld:=IU (aj m);have hvd:=IU (bM m)
 have PB:=fun W=>Tryz.bits_Len (m:Int) W ω ω
 rw [Int.toNat_natCast,z8 m ω] at PB;have hc2:=IU hc
 have KD:Wh.bl m<=Wh.bl N:=ω
 obtain ⟨ad,capd,ed,hmd,hvs⟩:=aF.seen hown
 injection ed with e1 e2 e3
 subst e1 e3;replace hvs:=IU hvs;clear hsm hml hown PD hc hmd e2
 have hb0:Hid (m=0->Wh.bl m=0):=IU fun h=>by rw [h];rfl
 generalize Wh.a_ m=ds,Wh.bl m=bm at *;replace PB:=IU PB
 have hln:ds.length<=2:=ω
 clear h2;go_wp2
 go_loopw [4,5] (fun vn vi wq=>∃ (k:Nat),k<=ds.length/\vi=.int .i64 ((k:Int) - 1)/\vn=.int .i64 (Wh.val (ds.drop k))/\Below wr wr wq) (fun _ vi _=>(intOf vi+1).toNat)
 case atStart=>exact ⟨ds.length,IY _,rfl,by rw [List.drop_length];rfl,IX _ _⟩
 case round=>
 obtain ⟨k,hk,rfl,rfl,hbq⟩:=hrel;have f1:=aE hbq c1;have hdn:=db (lJ hld.out k);have hdl:=uL hld.out k;rw [hvd.out] at hdl
 cases k with
 | zero=>
  have hv0:Wh.val (ds.drop 0)=m:=by rw [List.drop_zero];exact hvd.out
  rw [hv0];clear hv0 hdn hdl
  by_cases hm0:m=0
  ·have hcn:Hid (Wh.bl N=c):=IU (by have:=hc2.out;have:=hb0.out hm0;omega)
   subst hm0;go_wp2;go_ret;exact ⟨by rw [hcn.out] <;> rfl,j_ hbr hbq⟩
  have hcn:Hid (((Wh.bl N:Nat):Int)=(c:Int)+bm):=IU (by have:=hc2.out;omega)
  have hcb:c<=1000000:=by have:=hc2.out;omega
  have hm1:0<(m:Int):=ω
  go_wp2_with (go_at_call 171;(refine (PB.out _).mono ?_);rintro e w6 ⟨rfl,rfl⟩)
  go_ret;exact ⟨by rw [hcn.out] <;> rfl,j_ hbr hbq⟩
 | succ j=>
 obtain ⟨gx,x,ex,hgx,Tq,hcx⟩:=hvs.out j ω;subst ex;have hcx:=aE hbq hcx;have hvj:=pD Tq.out;have hlx:=hld.out x (List.mem_of_getElem? Tq.out);unfold Wh.lim at hlx;have YE:=IU (show Wh.val (ds.drop j)=Wh.val (ds.drop (j+1))*10000+x by rw [hvj];omega)
 have hbv:Wh.val (ds.drop (j+1))<=100000000:=ω
 clear hvj Tq hdl;generalize Wh.val (ds.drop (j+1))=v1 at *;go_wp2
 go_roundw
 case rel=>exact ⟨j,ω,ν,by rw [YE.out],hbq⟩
 case measure=>first | (simp [intOf];done) | (simp [intOf];omega)
theorem xj (N:Nat) (v:Value) (w:World) (base:Nat) (hown:aF w base v (Wh.a_ N)) (hl:(Wh.a_ N).length<=1000000) :
  Calls prog 196 #[false,v] w fun e w'=>∃ sl,e=.returned (.agg #[false,sl])/\aF w' w sl (Wh.a_ N)/\Below w w w':=by
 have h:=jL (N:Int) false (Wh.a_ N) v w base hown (aj N) hl (by rw [bM];rfl)
 refine h.mono fun e w' ⟨sl',h1,h2,h3⟩=>⟨sl',?_,?_,h3⟩
 ·rw [h1,decide_eq_false (show ¬ ((N:Int)<0) by omega)]
 unfold aZ at h2
 rwa [Int.natAbs_natCast] at h2
theorem xl (m n:Nat) (va:Value) (w:World) (ba:Nat) (hoa:aF w ba va (Wh.a_ m)) (hl:(Wh.a_ m).length<=9000) (hn1:1<=n) (hn2:n<=1000000000000) :
  Calls prog 194 #[.agg #[false,va],.int .i64 (n:Int)] w fun e w'=>∃ sl,e=.returned (.tuple #[.agg #[false,sl],.int .i64 ((m % n:Nat):Int)])/\aF w' w sl (Wh.a_ (m / n))/\Below w w w':=by
 have h:=fp (m:Int) (n:Int) va w ba (by unfold aZ;rwa [Int.natAbs_natCast]) (by rwa [Int.natAbs_natCast]) ω ω;rw [decide_eq_false (show ¬ ((m:Int)<0) by omega)] at h
 refine h.mono fun e w' ⟨sl',h1,h2,h3⟩=>⟨sl',?_,?_,h3⟩
 ·rw [h1,decide_eq_false (show ¬ ((m:Int) / (n:Int)<0) by have:=Int.ediv_nonneg (a:=(m:Int)) (b:=(n:Int)) ω ω;omega),←Int.natCast_emod]
 unfold aZ at h2
 rwa [←Int.natCast_ediv,Int.natAbs_natCast] at h2
theorem Wh.Bg {m:Nat} (h:(a_ m).length<=1):nth (a_ m) 0=m:=by
 have hv:=bM m
 cases hd:a_ m with
 | nil=>rw [hd] at hv;rw [←hv];rfl
 | cons x l=>
 rw [hd] at h hv
 cases l with
 | nil=>rw [←hv];show x=x+10000*0;omega
 | cons y t=>simp at h
theorem nK (a:Int) (va:Value) (w:World) (ba:Nat) (hoa:aZ w ba va a) (hl:(Wh.a_ a.natAbs).length<=9000) (hbl:Wh.bl a.natAbs<=1000000) :
  cB 175 #[.agg #[decide (a<0),va]] w (.int .i64 (Wh.bl a.natAbs:Nat)):=by
 obtain ⟨aa,s_,rfl,-,-⟩:=aF.view hoa
 have PA:=fun W (h:aF W ba (.slice aa (Wh.a_ a.natAbs).length s_) (Wh.a_ a.natAbs))=>xj a.natAbs (.slice aa (Wh.a_ a.natAbs).length s_) W ba h ω
 have PD:=fun (m:Nat) (hm:(Wh.a_ m).length<=9000) va W b (h:aF W b va (Wh.a_ m))=>xl m 4096 va W b h hm ω ω
 rw [show ((4096:Nat):Int)=4096 from rfl] at PD;replace PD:=IU PD
 have PL:=fun (m:Nat) va W b (h:aF W b va (Wh.a_ m))=>ik (Wh.a_ m) va 0 W b h
 rw [show ((0:Nat):Int)=0 from rfl] at PL;replace PL:=IU PL;generalize decide (a<0)=s1 at *;replace hoa:=IU (show aF _ _ _ _ from hoa);generalize a.natAbs=N at *;have b1:=aw.new w (.bool s1) (.slice aa (Wh.a_ N).length s_) 116;have hB:=(IX w w).alloc (IY _) (.cells #[s1,.slice aa (Wh.a_ N).length s_] 116);have ho1:=aF.alloc hoa.out (.cells #[s1,.slice aa (Wh.a_ N).length s_] 116);generalize hw3:w.alloc (.cells #[s1,.slice aa (Wh.a_ N).length s_] 116)=w3 at *;replace PA:=IU PA;have e2:=b1.c1;have hz3:=b1.size;go_enter func175,ntmps175
 go_wp2_with (go_at_call 196;(with_reducible refine (PA.out _ ho1).mono ?_);rintro e w4 ⟨v4,rfl,Iq,hb4⟩;obtain ⟨a4,cap4,rfl,RD,hv4⟩:=aF.view Iq;clear hv4 RD)
 have rs:=aw.new w4 (.bool false) (.slice a4 (Wh.a_ N).length cap4) 116;have os:=aF.alloc Iq (.cells #[false,.slice a4 (Wh.a_ N).length cap4] 116);have B4:=j_ hB hb4;have Bs:=B4.alloc B4.size (.cells #[false,.slice a4 (Wh.a_ N).length cap4] 116);have Ji:=B4.size;have SQ:=IU Iq;have hz34:=hb4.size;clear e2 Iq hb4 b1 hB ho1 B4
 have ne:(Value.slice a4 (Wh.a_ N).length cap4).ownBlock≠some w4.heap.size:=fun e=>by
  have:=(aF.lt SQ.out _ e).2;omega
 clear SQ
 go_loopw [3] (fun vb wr=>∃ (m c:Nat) (ax:Option Addr) (cx:Nat),vb=.int .i64 c/\c+Wh.bl m=Wh.bl N/\(Wh.a_ m).length<=(Wh.a_ N).length/\Hid (aw wr w4 (.bool false) (.slice ax (Wh.a_ m).length cx))/\Hid ((Value.slice ax (Wh.a_ m).length cx).ownBlock≠some w4.heap.size)/\aF wr w3 (.slice ax (Wh.a_ m).length cx) (Wh.a_ m)/\Below w w wr) (fun vb _=>Wh.bl N - (intOf vb).toNat)
 case atStart=>exact ⟨N,0,a4,cap4,rfl,Nat.zero_add _,IY _,IU rs,IU ne,os,Bs⟩
 case round=>
 clear rs os Bs ne;obtain ⟨m,c,ax,cx,rfl,hc,hml,JN,hne,hown,hbr⟩:=hrel;have c0:=JN.out.c0;have c1:=JN.out.c1;have Kp:=JN.out.size
 by_cases h2:1<(Wh.a_ m).length
 ·have hbig:=wF h2
  have hsh:=nO 12 m ω;rw [show 2 ^ 12=4096 from rfl] at hsh;have XX:=fT (Nat.div_le_self m 4096);have PX:=PD.out m ω;replace PX:=IU PX;generalize m % 4096=rr,m / 4096=m2 at *;replace hown:=IU hown;clear hbig;generalize hlm:(Wh.a_ m).length=lm at *
  go_wp2_with (go_at_call 194;(with_reducible refine (PX.out _ _ _ hown.out).mono ?_);rintro e w5 ⟨v5,rfl,JU,hb5⟩;obtain ⟨a5,cap5,rfl,N9,hv5⟩:=aF.view JU;have r5:=JN.out.keep hb5;have d0:=r5.c0;have d1:=r5.c1;have g0:=r5.f0;have g1:=r5.f1;clear hv5 N9)
  have ne5:(Value.slice a5 (Wh.a_ m2).length cap5).ownBlock≠some w4.heap.size:=fun e=>by
   have:=(aF.lt JU _ e).1;omega
  have hkp:=fun u v=>World.ownsRow.kept (aF.base (base':=w3.heap.size) JU ω) (dI w5 w4 u v) (Or.inr ne5)
  go_roundw
  case rel=>exact ⟨m2,c+12,a5,cap5,ν,ω,ω,IU (r5.store _ _),IU ne5,hkp _ _,((j_ hbr hb5).setCell ω _).setCell ω _⟩
  case measure=>simp [intOf];omega
 have hsm:=k8 (n:=m) (k:=1) ω
 have SM:(m:Int)<=9999:=by
  have:(10000:Int) ^ 1=10000:=δ
  omega
 have PX:=PL.out m;rw [Bg ω] at PX;replace PX:=IU PX;have hc2:=IU hc;replace hown:=IU hown
 have hcb:c<=Wh.bl N:=ω
 clear hsm hml PD hc
 go_wp2_with (go_at_call 197;with_reducible refine Id (PX.out _ _ _ hown.out) ?_)
 go_loopw [3,5] (fun vb vn wq=>∃ (m2 c2:Nat),vb=.int .i64 c2/\vn=.int .i64 m2/\c2+Wh.bl m2=Wh.bl N/\m2<=9999/\Below w w wq) (fun _ vn _=>(intOf vn).toNat)
 case atStart=>exact ⟨m,c,rfl,rfl,hc2.out,ω,hbr⟩
 case round=>
 obtain ⟨m2,c2,rfl,rfl,hcc,hm9,hbq⟩:=hrel
 by_cases hm0:m2=0
 ·have hcn:Hid (Wh.bl N=c2):=IU (by rw [hm0] at hcc;have:=DA;omega)
  subst hm0;clear hcc;go_wp2;go_ret;exact ⟨by rw [hcn.out] <;> rfl,hbq⟩
 have hh:=qS hm0
 have t2:Int.tdiv (m2:Int) 2=((m2 / 2:Nat):Int):=by rw [Int.tdiv_eq_ediv_of_nonneg ω];omega
 have hm1:0<(m2:Int):=ω
 have hlt:m2 / 2<m2:=ω
 have hcb2:c2<=Wh.bl N:=ω
 have P_:Hid (c2+1+Wh.bl (m2 / 2)=Wh.bl N):=IU ω;clear hcc hh;generalize m2 / 2=m3 at *;go_wp2
 go_roundw
 case rel=>exact ⟨m3,c2+1,ν,ν,P_.out,ω,hbq⟩
 case measure=>simp [intOf];omega
namespace Wh
theorem uJ:∀ l:List Int,(trim l).length<=l.length
 | []=>IY _
 | x :: l=>by
  have ih:=uJ l
  show (match trim l with
   | []=>if x=0 then [] else [x]
   | y :: t=>x :: y :: t).length<=(x :: l).length
  split
  ·split <;> simp
  rename_i y t h
  rw [h] at ih
  simpa using ih
theorem se {m n:Nat} (h:(a_ m).length=n+1):∃ x,(a_ m)[n]?=some x/\0<x:=by
 have hx:(a_ m)[n]?=some (a_ m)[n]:=List.getElem?_eq_getElem ω;refine ⟨_,hx,?_⟩;have h0:=(aj m _ (List.mem_of_getElem? hx)).1
 by_cases hz:(a_ m)[n]=0
 ·have ht:=AZ m
  have hs:a_ m=(a_ m).take n ++ [0]:=by
   have:=(List.take_append_drop n (a_ m)).symm;rw [List.drop_eq_getElem_cons ω,hz,List.drop_eq_nil_of_le ω] at this;exact this
  rw [hs,lh] at ht;have h1:=uJ ((a_ m).take n);rw [ht,List.length_append,List.length_take] at h1;simp at h1
  omega
 omega
end Wh
theorem po (z:Int) (va:Value) (w:World) (ba:Nat) (ho:aZ w ba va z) (hl:(Wh.a_ z.natAbs).length<=100000) :
  cB 199 #[.agg #[decide (z<0),va]] w (decide ((Wh.a_ z.natAbs).length<=400)):=by
 obtain ⟨aa,s_,rfl,hma,hva⟩:=aF.seen ho;have hva:=IU hva;have hla:=IU (aj z.natAbs)
 have hls:=fun n h=>se (m:=z.natAbs) (n:=n) h
 have hz0:Hid ((Wh.a_ z.natAbs).length=0->decide (z<0)=false):=IU fun h=>by
  have:=jN.1 (List.length_eq_zero_iff.1 h);exact decide_eq_false ω
 clear hma ho;generalize Wh.a_ z.natAbs=xs,decide (z<0)=s1 at *;have hls:=IU hls;have b1:=aw.new w (.bool s1) (.slice aa xs.length s_) 116;have hB:=(IX w w).alloc (IY _) (.cells #[s1,.slice aa xs.length s_] 116)
 by_cases h4:xs.length<=400
 ·rw [decide_eq_true h4]
  generalize hw3:w.alloc (.cells #[s1,.slice aa xs.length s_] 116)=w3 at *;have e1:=b1.c0;have e2:=b1.c1
  by_cases hn:xs.length=0
  ·have hs:=hz0.out hn
   subst hs;have hn1:=IU hn;rw [hn] at e2 hw3 ⊢;clear hn hls hz0 b1 hl h4;go_enter func199,ntmps199
   go_wp2;clear e1 e2
   go_loopw [5,35] (fun _ vi wr=>∃ k:Nat,k<=0/\vi=.int .i64 k/\Below w3 w3 wr) (fun _ vi _=>0 - (intOf vi).toNat)
   case atStart=>exact ⟨0,Nat.zero_le _,rfl,IX _ _⟩
   case round=>
   obtain ⟨k,hk,rfl,hbr⟩:=hrel
   by_cases hlt:k<0
   ·obtain ⟨gb,y,eb,hgb,hyb,hcb⟩:=hva.out k (by rw [hn1.out];exact hlt)
    exact absurd hlt (Nat.not_lt_zero _)
   obtain rfl:k=0:=ω
   go_wp2;go_ret;exact ⟨rfl,j_ hB hbr⟩
  obtain ⟨n,hn1⟩:∃ n,xs.length=n+1:=⟨xs.length - 1,ω⟩
  obtain ⟨x,hx,hx0⟩:=hls.out n hn1;obtain ⟨ga,x',ea,hga,hxa,hca⟩:=hva.out n ω;subst ea;obtain rfl:=Option.some.inj (hx.symm.trans hxa.out);have M9:=hB.cell (p:=⟨ga,n,none⟩) hga;have L5:=M9.trans hca
  have hxn:¬ x=0:=ω
  have h4':n+1<=400:=ω
  have hd1:decide (400<(n:Int)+1)=false:=decide_eq_false ω;have hd2:(x == 0)=false:=beq_eq_false_iff_ne.2 hxn;have hd3:((n:Int)+1 == 0)=false:=beq_eq_false_iff_ne.2 ω;rw [hn1] at e2 hw3 ⊢;replace hn1:=IU hn1;clear hca M9 hx hn hxa hls hz0 b1 hl h4;go_enter func199,ntmps199
  go_wp2;clear e1 e2 L5 hxn hx0 hd1 hd2 hd3
  go_loopw [5,35] (fun _ vi wr=>∃ k:Nat,k<=n+1/\vi=.int .i64 k/\Below w3 w3 wr) (fun _ vi _=>n+1 - (intOf vi).toNat)
  case atStart=>exact ⟨0,Nat.zero_le _,rfl,IX _ _⟩
  case round=>
  obtain ⟨k,hk,rfl,hbr⟩:=hrel
  by_cases hlt:k<n+1
  ·obtain ⟨gb,y,eb,hgb,hyb,hcb⟩:=hva.out k (by rw [hn1.out];exact hlt)
   obtain rfl:ga=gb:=by simpa using eb
   have hcb:=((j_ hB hbr).cell (p:=⟨ga,k,none⟩) hgb).trans hcb;have Oh:=hla.out y (List.mem_of_getElem? hyb.out)
   have PI:=fun W=>dV y 0 9999 W
   rw [show M.ins y 0 9999=true by unfold M.ins;unfold Wh.lim at Oh;simp;omega] at PI;replace PI:=IU PI;clear hyb Oh
   go_wp2_with (go_at_call 28;with_reducible refine Id (PI.out _) ?_)
   go_roundw
   case rel=>exact ⟨k+1,ω,ν,hbr⟩
   case measure=>simp [intOf];omega
  obtain rfl:k=n+1:=ω
  go_wp2;go_ret;exact ⟨rfl,j_ hB hbr⟩
 rw [decide_eq_false h4];go_enter func199,ntmps199
 go_wp2;go_ret;exact ⟨rfl,hB⟩
theorem tO (l:List Int) (v:Value) (w:World) (base:Nat) (hown:aF w base v l) (h:Wh.bK l) (hl:l.length<=100000) :
  cB 77 #[v,(0:Int),(9999:Int)] w true:=by
 obtain ⟨a,cap,rfl,hm,hv⟩:=hown.seen;have hv:=IU hv;have h:=IU h;clear hm hown;go_enter func77,ntmps77
 go_wp2
 go_loopw [8,11] (fun _ vi wr=>∃ k:Nat,k<=l.length/\vi=.int .i64 k/\Below w w wr) (fun _ vi _=>l.length - (intOf vi).toNat)
 case atStart=>exact ⟨0,Nat.zero_le _,rfl,IX _ _⟩
 case round=>
 obtain ⟨k,hk,rfl,hbr⟩:=hrel
 by_cases hlt:k<l.length
 ·obtain ⟨g,y,rfl,hg,hy,hcell⟩:=hv.out k hlt
  have hc:=aE hbr hcell;have Oh:=h.out y (List.mem_of_getElem? hy.out)
  have PI:=fun W=>dW y 0 9999 W
  rw [show M.ins y 0 9999=true by unfold M.ins;unfold Wh.lim at Oh;simp;omega] at PI;replace PI:=IU PI;clear hcell hy Oh
  go_wp2_with (go_at_call 35;with_reducible refine Id (PI.out _) ?_)
  go_roundw
  case rel=>exact ⟨k+1,ω,ν,hbr⟩
  case measure=>simp [intOf];omega
 obtain rfl:k=l.length:=ω
 go_wp2;go_ret;exact ⟨rfl,hbr⟩
theorem sQ (z:Int) (va:Value) (w:World) (ba:Nat) (ho:aZ w ba va z) (hl:(Wh.a_ z.natAbs).length<=100000) :
  cB 203 #[.agg #[decide (z<0),va]] w (decide ((Wh.a_ z.natAbs).length<=400)):=by
 obtain ⟨aa,s_,rfl,hma,hva⟩:=aF.seen ho;have hva:=IU hva
 have PL:=fun W (h:aF W ba (.slice aa (Wh.a_ z.natAbs).length s_) (Wh.a_ z.natAbs))=>tO (Wh.a_ z.natAbs) (.slice aa (Wh.a_ z.natAbs).length s_) W ba h (aj _) hl
 have hoo:=IU (show aF w ba (.slice aa (Wh.a_ z.natAbs).length s_) (Wh.a_ z.natAbs) from ho)
 have hls:=fun n h=>se (m:=z.natAbs) (n:=n) h
 have hz0:Hid ((Wh.a_ z.natAbs).length=0->decide (z<0)=false):=IU fun h=>by
  have:=jN.1 (List.length_eq_zero_iff.1 h);exact decide_eq_false ω
 clear hma ho;generalize Wh.a_ z.natAbs=xs,decide (z<0)=s1 at *;replace PL:=IU PL;replace hls:=IU hls;have b1:=aw.new w (.bool s1) (.slice aa xs.length s_) 116;have hB:=(IX w w).alloc (IY _) (.cells #[s1,.slice aa xs.length s_] 116)
 by_cases h4:xs.length<=400
 ·rw [decide_eq_true h4]
  have ho3:=aF.alloc hoo.out (.cells #[s1,.slice aa xs.length s_] 116);generalize hw3:w.alloc (.cells #[s1,.slice aa xs.length s_] 116)=w3 at *;have PX:=PL.out w3 ho3;have e1:=b1.c0;have e2:=b1.c1;have bh:=IU b1
  by_cases hn:xs.length=0
  ·have hs:=hz0.out hn
   subst hs;rw [hn] at e2 hw3 PX ⊢;replace PX:=IU PX;rw [hn] at bh;clear hn hls hz0 b1 hl h4 ho3;go_enter func203,ntmps203
   go_wp2_with (go_at_call 77;with_reducible refine p_ (PX.out) fun w5 hb5=>?_;have c5:=bh.out.keep hb5;have f1:=c5.c0;have f2:=c5.c1)
   go_ret;exact ⟨rfl,j_ hB hb5⟩
  obtain ⟨n,hn1⟩:∃ n,xs.length=n+1:=⟨xs.length - 1,ω⟩
  obtain ⟨x,hx,hx0⟩:=hls.out n hn1;obtain ⟨ga,x',ea,hga,hxa,hca⟩:=hva.out n ω;subst ea;obtain rfl:=Option.some.inj (hx.symm.trans hxa.out);have M9:=hB.cell (p:=⟨ga,n,none⟩) hga;have L5:=M9.trans hca
  have h4':n+1<=400:=ω
  have hd1:decide ((n:Int)+1<=400)=true:=decide_eq_true ω;have hd3:((n:Int)+1 == 0)=false:=beq_eq_false_iff_ne.2 ω;have hd4:decide (0<x)=true:=decide_eq_true hx0;rw [hn1] at e2 hw3 PX bh ⊢;replace hn1:=IU hn1;replace PX:=IU PX;clear hca M9 hx hn hxa hls hz0 b1 hl h4 ho3;go_enter func203,ntmps203
  go_wp2_with (go_at_call 77;with_reducible refine p_ (PX.out) fun w5 hb5=>?_;have c5:=bh.out.keep hb5;have f1:=c5.c0;have f2:=c5.c1;have f3:=aE hb5 L5)
  go_ret;exact ⟨rfl,j_ hB hb5⟩
 rw [decide_eq_false h4];go_enter func203,ntmps203
 go_wp2;go_ret;exact ⟨rfl,hB⟩
theorem ji (a:Int) (n:Nat) (va:Value) (w:World) (ba:Nat) (hoa:aZ w ba va a) (hl:(Wh.a_ a.natAbs).length<=9000) (hn1:1<=n) (hn2:n<=1000000000000) :
  cB 198 #[.agg #[decide (a<0),va],.int .i64 (n:Int)] w (.int .i64 (Nat.gcd (a.natAbs % n) n:Nat)):=by
 obtain ⟨aa,s_,rfl,-,-⟩:=aF.view hoa
 have PA:=fun W (h:aF W ba (.slice aa (Wh.a_ a.natAbs).length s_) (Wh.a_ a.natAbs))=>lj a (.slice aa (Wh.a_ a.natAbs).length s_) W ba h ω
 have PD:=fun va W b (h:aF W b va (Wh.a_ a.natAbs))=>ly a.natAbs n va W b h hl hn1 hn2
 have hlt:a.natAbs % n<n:=Nat.mod_lt _ ω
 have PG:=fun W=>s9 ((a.natAbs % n:Nat):Int) (n:Int) W ω ω ω ω
 rw [show M.gcd ((a.natAbs % n:Nat):Int) (n:Int)=((Nat.gcd (a.natAbs % n) n:Nat):Int) from rfl] at PG;replace hoa:=IU (show aF _ _ _ _ from hoa);generalize a.natAbs=N,a.natAbs / n=q,a.natAbs % n=r,Nat.gcd (a.natAbs % n) n=g,decide (a<0)=s1 at *;have b1:=aw.new w (.bool s1) (.slice aa (Wh.a_ N).length s_) 116;have hB:=(IX w w).alloc (IY _) (.cells #[s1,.slice aa (Wh.a_ N).length s_] 116);have ho1:=aF.alloc hoa.out (.cells #[s1,.slice aa (Wh.a_ N).length s_] 116);generalize hw3:w.alloc (.cells #[s1,.slice aa (Wh.a_ N).length s_] 116)=w3 at *;have e1:=b1.c0;have e2:=b1.c1;replace PA:=IU PA;replace PD:=IU PD;replace PG:=IU PG;go_enter func198,ntmps198
 go_wp2_with (first
  | (go_at_call 184;(with_reducible refine (PA.out _ ho1).mono ?_);rintro e w4 ⟨v4,rfl,Iq,hb4⟩)
  | (go_at_call 181;(with_reducible refine (PD.out _ _ _ Iq).mono ?_);rintro e w5 ⟨v5,rfl,JU,hb5⟩;obtain ⟨a5,cap5,rfl,N9,hv5⟩:=aF.view JU;clear hv5 N9)
  | (go_at_call 83;(with_reducible refine (PG.out _).mono ?_);rintro e w6 ⟨rfl,m6,rfl⟩))
 go_ret;have B4:=j_ hB hb4;have B5:=j_ B4 hb5;exact ⟨rfl,aN (B5.alloc B5.size _) _⟩
end
end Go.Proofs.YtkalaljcbmkbmaaGreat
