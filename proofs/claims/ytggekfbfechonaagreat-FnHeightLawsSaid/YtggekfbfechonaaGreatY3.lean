/-
  Joined texts: contracts and plain lemmas.
-/
import Derived.Test.YtggekfbfechonaaGreatY1
import Derived.Test.YtggekfbfechonaaGreatY2
set_option linter.unusedSimpArgs false
set_option linter.unusedVariables false
set_option maxRecDepth 100000
set_option maxHeartbeats 8000000
namespace Go.Proofs.YtggekfbfechonaaGreat
section
open Go.RowKit
namespace Wh
theorem ov (a b:Int):yG (decide (a<0) != decide (b<0)) ((a.natAbs:Int)*(b.natAbs:Int))=a*b:=by
 rcases Int.natAbs_eq a with ha | ha <;> rcases Int.natAbs_eq b with hb | hb
 all_goals
  generalize b.natAbs=n,a.natAbs=m at *;subst ha hb
 ·rw [decide_eq_false (by omega),decide_eq_false (by omega)];rfl
 ·by_cases h:n=0
  ·subst h;simp [yG]
  rw [decide_eq_false (by omega),decide_eq_true (by omega)]
  show -((m:Int)*(n:Int))=(m:Int)*-(n:Int)
  rw [Int.mul_neg]
 ·by_cases h:m=0
  ·subst h;simp [yG]
  rw [decide_eq_true (by omega),decide_eq_false (by omega)]
  show -((m:Int)*(n:Int))=-(m:Int)*(n:Int)
  rw [Int.neg_mul]
 by_cases h:m=0
 ·subst h;simp [yG]
 by_cases h':n=0
 ·subst h';simp [yG]
 rw [decide_eq_true (by omega),decide_eq_true (by omega)]
 show (m:Int)*(n:Int)=-(m:Int)*-(n:Int)
 rw [Int.neg_mul_neg]
theorem uw (n:Nat):bQ (List.replicate n 0):=fun x hx=>by rw [(List.mem_replicate.1 hx).2];exact ⟨Int.le_refl _,by decide⟩
theorem sa:∀ n:Nat,val (List.replicate n 0)=0
 | 0=>rfl
 | n+1=>by
  rw [List.replicate_succ]
  show 0+10000*val (List.replicate n 0)=0
  rw [sa n];rfl
theorem MInv.ui {o0 o:List Int} {x:Int} {b:List Int} {i k:Nat} {c:Int} (h:MInv o0 o x b i k c):o[k]?=o0[k]?:=by
 have:=congrArg (fun l:List Int=>l[0]?) h.rest
 simpa [List.getElem?_drop] using this
end Wh
theorem ci (a b:Int) (va vb:Value) (w:World) (ba bb:Nat) (hoa:ak w ba va a) (xp:ak w bb vb b) (hl1:(Wh.a_ a.natAbs).length≤10000) (hl2:(Wh.a_ b.natAbs).length≤10000) :
  Calls Tryz.prog 138 #[.agg #[.bool (decide (a<0)),va],.agg #[.bool (decide (b<0)),vb]] w fun e w'=>∃ sl,e=.returned (.agg #[.bool (decide (a*b<0)),sl])∧ak w' w.heap.size sl (a*b)∧Below w.heap.size w w':=by
 obtain ⟨aa,o_,rfl,hma,hva⟩:=aF.seen hoa;obtain ⟨ab,wO,rfl,hmb,hvb⟩:=aF.seen xp;have hva:=wH hva;have hvb:=wH hvb;have hla:=wH (Wh.bD a.natAbs);have hlb:=wH (Wh.bD b.natAbs)
 have PT:=fun W v base ho=>fC (a*b) ((a.natAbs:Int)*(b.natAbs:Int)) ((Wh.a_ a.natAbs).length+(Wh.a_ b.natAbs).length+1) (decide (a<0) != decide (b<0)) v W base ho (by omega) (Wh.ov a b)
 have hpr:Hid (∀ (x y:List Int),x=Wh.a_ a.natAbs→y=Wh.a_ b.natAbs→Wh.val x*Wh.val y=(a.natAbs:Int)*(b.natAbs:Int)):=wH fun x y h1 h2=>by rw [h1,h2,Wh.bR,Wh.bR]
 have hpr:=wH (hpr.out _ _ rfl rfl);generalize decide (b<0)=s2,decide (a<0)=s1 at *;generalize (a.natAbs:Int)*(b.natAbs:Int)=y at *;generalize a*b=z at *;generalize Wh.a_ b.natAbs=ys,Wh.a_ a.natAbs=xs,decide (z<0)=s at *;clear hma hmb hoa xp;have b1:=((ar.new w (.bool s1) (.slice aa xs.length o_) 125).alloc (.cells #[.bool s2,.slice ab ys.length wO] 125)).alloc (.cells #[.bool false,.slice none 0 0] 125);have b2:=(ar.new2 w (.cells #[.bool s1,.slice aa xs.length o_] 125) (.bool s2) (.slice ab ys.length wO) 125).alloc (.cells #[.bool false,.slice none 0 0] 125);have b3:=ar.new2 (w.alloc (.cells #[.bool s1,.slice aa xs.length o_] 125)) (.cells #[.bool s2,.slice ab ys.length wO] 125) (.bool false) (.slice none 0 0) 125;rw [wI] at b3;have hB:=(((wK w.heap.size w).alloc (wL _) (.cells #[.bool s1,.slice aa xs.length o_] 125)).alloc (by rw [wI];omega) (.cells #[.bool s2,.slice ab ys.length wO] 125)).alloc (by rw [wI,wI];omega) (.cells #[.bool false,.slice none 0 0] 125);generalize hw3:((w.alloc (.cells #[.bool s1,.slice aa xs.length o_] 125)).alloc (.cells #[.bool s2,.slice ab ys.length wO] 125)).alloc (.cells #[.bool false,.slice none 0 0] 125)=w3 at *;obtain ⟨w4,hrun,hown1,hg1⟩:=kQ w3 (xs.length+ys.length+1) (by omega);rw [show ((xs.length+ys.length+1:Nat):Int)=(xs.length:Int)+(ys.length:Int)+1 by omega] at hrun;have hb4:Below w3.heap.size w3 w4:=cP hg1 (wL _) (fun k hk=>by cases hk);have hB3:=wH hB;have e2:=b1.c1;have e4:=b2.c1;have k2:=b1.keep hb4;have k4:=b2.keep hb4;have f2:=k2.c1;have f4:=k4.c1;clear hg1;go_enter Tryz.func138,Tryz.ntmps138
 go_wp2;have Bv:=wH b1;have Bw:=wH b2;have Fu:=wH b3;clear e2 e4 k2 k4 f2 f4 b1 b2 b3 hB
 go_loopw [6,7,8,9,10,23] (fun _ _ _ _ _ vi wr=>∃ (i:Nat) (o:List Int),i≤xs.length∧vi=.int .i64 i∧aF wr w3.heap.size (.slice (some ⟨w3.heap.size,0,none⟩) (xs.length+ys.length+1) (xs.length+ys.length+1)) o∧o.length=(xs.length+ys.length+1)∧Wh.bQ o∧Wh.val o=Wh.val (xs.take i)*Wh.val ys∧Below w3.heap.size w3 wr) (fun _ _ _ _ _ vi _=>xs.length - (intOf vi).toNat)
 case atStart=>exact ⟨0,List.replicate (xs.length+ys.length+1) 0,Nat.zero_le _,rfl,hown1,List.length_replicate,Wh.uw _,by rw [Wh.sa];simp [Wh.val],hb4⟩
 case round=>
 clear hown1 hb4;obtain ⟨i,o,hi,rfl,hown,hlen,hls,Gg,hbr⟩:=hrel;have hlen:=wH hlen;have hls:=wH hls;have Gg:=wH Gg;have c1:=Bv.out.dP hbr Bv.out.size;have c2:=Bw.out.dP hbr Bw.out.size;have c3:=Fu.out.dP hbr Fu.out.size;have hwr:Below w.heap.size w wr:=hB3.out.trans (hbr.mono hB3.out.size)
 by_cases hlt:i<xs.length
 ·obtain ⟨ga,x,ea,hga,hxa,hca⟩:=hva.out i hlt
  subst ea;have Bz:=aE hwr hca;have hlx:=wH (hla.out x (List.mem_of_getElem? hxa.out));have hrow:=wH (Wh.rh hxa.out Gg.out);have M3:=wH (Wh.pG (n:=(xs.length+ys.length+1)) (Wh.eW hla.out (i+1)) hlb.out (by rw [List.length_take];omega));have d2:=c1.c1;have d4:=c2.c1;clear hca c1 c2 c3 hwr;go_wp2
  go_loopw [8,9,10] (fun vc vk _ wq=>∃ (d:Nat) (p:List Int) (c:Int),i+d≤(xs.length+ys.length+1)∧vk=.int .i64 ((i+d:Nat):Int)∧vc=.int .i64 c∧aF wq w3.heap.size (.slice (some ⟨w3.heap.size,0,none⟩) (xs.length+ys.length+1) (xs.length+ys.length+1)) p∧Wh.MInv o p x ys i (i+d) c∧Below w3.heap.size w3 wq) (fun _ vk _ _=>(xs.length+ys.length+1) - (intOf vk).toNat)
  case atStart=>exact ⟨0,o,0,by omega,rfl,rfl,hown,Wh.MInv.start hls.out x ys i,hbr⟩
  case round=>
  clear hown hbr Bz d2 d4;obtain ⟨d,p,c,hd,rfl,rfl,hown,EK,hbq⟩:=hrel;have c1:=Bv.out.dP hbq Bv.out.size;have c2:=Bw.out.dP hbq Bw.out.size;have hwq:Below w.heap.size w wr:=hB3.out.trans (hbq.mono hB3.out.size)
  by_cases hk:i+d<(xs.length+ys.length+1)
  ·obtain ⟨t,ht⟩:∃ t,o[i+d]?=some t:=⟨_,List.getElem?_eq_getElem (by rw [hlen.out];exact hk)⟩
   have hpl:=EK.len.trans hlen.out;have hpk:=EK.ui.trans ht;have hc0:=aF.cellAt hpl.symm hown hpk;have hf0:wr.frozen? ⟨w3.heap.size,i+d,none⟩=false:=es hpl hown (i+d)
   have hst:=wH fun y=>aF.set (j:=i+d) hpl.symm hown y rfl
   have hstep:=fun y hy=>EK.step (y:=y) hls.out hlx.out hlb.out (Nat.le_add_right _ _) ht hy
   rw [Nat.add_sub_cancel_left] at hstep;have hstep:=wH hstep;have htl:=hls.out t (List.mem_of_getElem? ht);unfold Wh.lim at htl;have hcr:=EK.c0;have xY:=wH hbq;have d4:=c2.c1;have Jg:w3.heap.size<wr.heap.size:=World.block_lt_of_cell? wr _ hc0;clear EK hpl hpk ht hown c1 c2
   by_cases hdl:d<ys.length
   ·obtain ⟨gb,yb,eb,hgb,hxb,hcb⟩:=hvb.out d hdl
    subst eb;have hcb:=aE hwq hcb;have hny:=Wh.cl hxb.out;have hm:=Wh.lE hlx.out (hlb.out yb (List.mem_of_getElem? hxb.out));rw [hny] at hstep;have hny:x*yb=x*yb:=rfl;generalize hpb:x*yb=pb at *;clear hny;have hny:pb=pb:=rfl;have hS:=hstep.out (t+c+pb) rfl;have hy0:=hS.1;have t1:Int.tmod (t+c+pb) 10000=(t+c+pb) % 10000:=Int.tmod_eq_emod_of_nonneg hy0.1;have t2:Int.tdiv (t+c+pb) 10000=(t+c+pb) / 10000:=Int.tdiv_eq_ediv_of_nonneg hy0.1
    have hrr:0≤(t+c+pb) % 10000∧(t+c+pb) % 10000<10000:=by omega
    have hqq:0≤(t+c+pb) / 10000∧(t+c+pb) / 10000≤9999:=by omega
    have hS2:=wH hS.2;have hO:=wH (hst.out ((t+c+pb) % 10000));clear hS hstep hst hny;generalize (t+c+pb) / 10000=qq,(t+c+pb) % 10000=r at *;go_wp2
    go_roundw
    case rel=>exact ⟨d+1,_,_,by omega,by go_num,by go_num,hO.out.1,hS2.out,xY.out.setCell (wL _) _⟩
    case measure=>simp [intOf];omega
   have hny:=Wh.ck (l:=ys) (i:=d) (by omega);rw [hny,Int.mul_zero] at hstep;have hS:=hstep.out (t+c) (by omega);have hy0:=hS.1;have t1:Int.tmod (t+c) 10000=(t+c) % 10000:=Int.tmod_eq_emod_of_nonneg hy0.1;have t2:Int.tdiv (t+c) 10000=(t+c) / 10000:=Int.tdiv_eq_ediv_of_nonneg hy0.1
   have hrr:0≤(t+c) % 10000∧(t+c) % 10000<10000:=by omega
   have hqq:0≤(t+c) / 10000∧(t+c) / 10000≤9999:=by omega
   have hS2:=wH hS.2;have hO:=wH (hst.out ((t+c) % 10000));clear hS hstep hst hny;generalize (t+c) / 10000=qq,(t+c) % 10000=r at *;go_wp2
   go_roundw
   case rel=>exact ⟨d+1,_,_,by omega,by go_num,by go_num,hO.out.1,hS2.out,xY.out.setCell (wL _) _⟩
   case measure=>simp [intOf];omega
  have e:i+d=(xs.length+ys.length+1):=by omega
  rw [e] at EK;have hf:=wH (EK.fin hlen.out (by omega) hrow.out M3.out hls.out);have hpl:=wH (EK.len.trans hlen.out);have hll:=wH (EK.bQ hls.out);have hown:=wH hown;clear EK c1 c2;go_wp2
  go_roundw
  case rel=>exact ⟨i+1,p,by omega,by go_num,hown.out,hpl.out,hll.out,hf.out,hbq⟩
  case measure=>simp [intOf];omega
 obtain rfl:i=xs.length:=by omega
 rw [List.take_length] at Gg;have hov:Hid (jS wr w3.heap.size (.slice (some ⟨w3.heap.size,0,none⟩) (xs.length+ys.length+1) (xs.length+ys.length+1)) y (xs.length+ys.length+1)):=wH ⟨o,hown,hls.out,by rw [Gg.out,hpr.out],by rw [hlen.out];exact wL _⟩;have d1:=c1.c0;have d2:=c2.c0;clear hown;rw [show (s1 != s2)=!(s1 == s2) from rfl] at PT;have PT:=wH PT
 go_wp2_with (go_at_call 171;(with_reducible refine (PT.out _ _ _ hov.out).mono ?_);rintro e w5 ⟨vc,rfl,hoc,hbc⟩;obtain ⟨ac,wX,rfl,hmc,xV⟩:=aF.view hoc;have r5:=c3.keep hbc;have p0:=r5.c0;have p1:=r5.c1;have g0:=r5.f0;have g1:=r5.f1;clear xV hmc)
 have hr:=cF (w:=w) (w.heap.size+1+1) _ (.bool s) (by omega) c3.size hoc (d_ hwr hbc);generalize (Wh.a_ z.natAbs).length=yE at *;exact bodyPost_ret (v:=.agg #[.bool s,.slice ac yE wX]) (by simp [results,Tryz.results138,go_sem, *]) rfl (⟨_,rfl,hr.1,hr.2⟩)
namespace Wh
theorem rB {a n:Int} (ha:¬ a<0):yG false ((a.natAbs:Int) / n)=a / n∧(a.natAbs:Int) % n=a % n:=by
 rw [show (a.natAbs:Int)=a by omega];exact ⟨rfl,rfl⟩
theorem q9 {a n:Int} (hn:0<n) (ha:a<0) (hr:(a.natAbs:Int) % n=0):yG true ((a.natAbs:Int) / n)=a / n∧(a.natAbs:Int) % n=a % n:=by
 have h1:=Int.mul_ediv_add_emod (a.natAbs:Int) n;rw [hr] at h1 ⊢
 have h2:a=n*-((a.natAbs:Int) / n):=by
  rw [Int.mul_neg];omega
 constructor
 ·show -((a.natAbs:Int) / n)=a / n
  conv=>rhs;rw [h2]
  rw [Int.mul_ediv_cancel_left _ (by omega)]
 conv=>rhs;rw [h2]
 rw [Int.mul_emod_right]
theorem rA {a n:Int} (hn:0<n) (ha:a<0) (hr:¬ (a.natAbs:Int) % n=0):yG true ((a.natAbs:Int) / n)+-1=a / n∧n - (a.natAbs:Int) % n=a % n:=by
 have h1:=Int.mul_ediv_add_emod (a.natAbs:Int) n;have h3:=Int.emod_nonneg (a.natAbs:Int) (show n≠0 by omega);have h4:=Int.emod_lt_of_pos (a.natAbs:Int) hn;generalize (a.natAbs:Int) / n=q at *;generalize (a.natAbs:Int) % n=r at *
 have h2:a=(n - r)+n*(-q+-1):=by
  rw [Int.mul_add,Int.mul_neg];omega
 constructor
 ·show -q+-1=a / n
  rw [h2,Int.add_mul_ediv_left _ _ (by omega),Int.ediv_eq_zero_of_lt (by omega) (by omega),Int.zero_add]
 rw [h2,Int.add_mul_emod_self_left,Int.emod_eq_of_lt (by omega) (by omega)]
theorem oW {a n:Int} (s:Bool) (hn:0<n):(a_ (yG s ((a.natAbs:Int) / n)).natAbs).length≤(a_ a.natAbs).length:=by
 refine dh ?_;have h1:0≤(a.natAbs:Int) / n:=Int.ediv_nonneg (by omega) (by omega);have h2:(a.natAbs:Int) / n≤a.natAbs:=Int.ediv_le_self _ (by omega);rw [lS h1];omega
theorem io:(a_ (-1:Int).natAbs).length≤1:=dJ (k:=1) (by decide)
end Wh
theorem gL (a n:Int) (va:Value) (w:World) (ba:Nat) (hoa:ak w ba va a) (hl:(Wh.a_ a.natAbs).length≤9000) (hn1:1≤n) (hn2:n≤1000000000000) :
  Calls Tryz.prog 179 #[.agg #[.bool (decide (a<0)),va],.int .i64 n] w fun e w'=>∃ sl,e=.returned (.tuple #[.agg #[.bool (decide (a / n<0)),sl],.int .i64 (a % n)])∧ak w' w.heap.size sl (a / n)∧Below w.heap.size w w':=by
 obtain ⟨aa,o_,rfl,hma,hva⟩:=aF.seen hoa;have hva:=wH hva;have hla:=wH (Wh.bD a.natAbs);have hvl:=wH (Wh.bR a.natAbs)
 have hq0:=fun s=>Wh.oW (a:=a) (n:=n) s (by omega)
 have PT:=fun s W v base ho=>fC (Wh.yG s ((a.natAbs:Int) / n)) ((a.natAbs:Int) / n) (Wh.a_ a.natAbs).length s v W base ho (by omega) rfl
 have d0:=fun h=>Wh.rB (a:=a) (n:=n) h
 have d1:=fun h h'=>Wh.q9 (a:=a) (n:=n) (by omega) h h'
 have d2:=fun h h'=>Wh.rA (a:=a) (n:=n) (by omega) h h'
 have d0:=wH d0;have d1:=wH d1;have d2:=wH d2;clear hma hoa
 obtain ⟨s1,hs1⟩:∃ s,decide (a<0)=s:=⟨_,rfl⟩
 rw [hs1];have hs1:=wH hs1;generalize a % n=zr,a / n=z at *;generalize hab:(a.natAbs:Int)=A at *;have yN:Hid (Wh.val (Wh.a_ a.natAbs)=A):=hvl;clear hvl hab;generalize Wh.a_ a.natAbs=xs at *
 obtain ⟨s,hsd⟩:∃ s,Hid (decide (z<0)=s):=⟨_,wH rfl⟩
 rw [hsd.out];have b1:=(ar.new w (.bool s1) (.slice aa xs.length o_) 125).alloc (.cells #[.bool false,.slice none 0 0] 125);have b2:=ar.new2 w (.cells #[.bool s1,.slice aa xs.length o_] 125) (.bool false) (.slice none 0 0) 125;have hB:=((wK w.heap.size w).alloc (wL _) (.cells #[.bool s1,.slice aa xs.length o_] 125)).alloc (by rw [wI];omega) (.cells #[.bool false,.slice none 0 0] 125);generalize hw3:(w.alloc (.cells #[.bool s1,.slice aa xs.length o_] 125)).alloc (.cells #[.bool false,.slice none 0 0] 125)=w3 at *;obtain ⟨w4,hrun,hown1,hg1⟩:=kQ w3 xs.length (by omega);have hb4:Below w3.heap.size w3 w4:=cP hg1 (wL _) (fun k hk=>by cases hk);have hB3:=wH hB;have e2:=b1.c1;have Bv:=wH b1;have Bw:=wH b2;clear hg1 b2 hB;go_enter Tryz.func179,Tryz.ntmps179
 go_wp2;clear e2 b1
 go_loopw [7,8] (fun vr vi wr=>∃ (k:Nat) (q:List Int) (r:Int),k≤xs.length∧vi=.int .i64 ((k:Int) - 1)∧vr=.int .i64 r∧aF wr w3.heap.size (.slice (some ⟨w3.heap.size,0,none⟩) xs.length xs.length) q∧Wh.jP xs q n k r∧Below w3.heap.size w3 wr) (fun _ vi _=>(intOf vi+1).toNat)
 case atStart=>exact ⟨xs.length,List.replicate xs.length 0,0,wL _,rfl,rfl,hown1,Wh.jP.start (by omega) List.length_replicate,hb4⟩
 case round=>
 clear hown1 hb4;obtain ⟨k,q,r,hk,rfl,rfl,hown,hdi,hbr⟩:=hrel;have c1:=Bv.out.dP hbr Bv.out.size;have c2:=Bw.out.dP hbr Bw.out.size;have hwr:Below w.heap.size w wr:=hB3.out.trans (hbr.mono hB3.out.size)
 cases k with
 | zero=>
  have hf:=hdi.fin;rw [yN.out] at hf;obtain ⟨hq1,rfl,hq3⟩:=hf;have hov:Hid (jS wr w3.heap.size (.slice (some ⟨w3.heap.size,0,none⟩) xs.length xs.length) (A / n) xs.length):=wH ⟨q,hown,hq3,hq1,by rw [hdi.len];exact wL _⟩;have hd0:=c1.c0;clear hdi hown hq1 hq3;cases s1
  ·have hna:¬ a<0:=by have:=hs1.out;simpa using this
   obtain ⟨hz1,hz2⟩:=d0.out (by omega);have PT:=PT false;rw [hz1] at PT;rw [hsd.out] at PT;have PT:=wH PT;rw [hz2]
   go_wp2_with (go_at_call 171;(with_reducible refine (PT.out _ _ _ hov.out).mono ?_);rintro e w5 ⟨vc,rfl,hoc,hbc⟩;obtain ⟨ac,wX,rfl,hmc,xV⟩:=aF.view hoc;have r5:=c2.keep hbc;have b5:=c1.keep hbc;have p0:=r5.c0;have p1:=r5.c1;have g0:=r5.f0;have g1:=r5.f1;have z5:=r5.size;have y5:=b5.size;have x0:=b5.c0;clear xV hmc)
   have hr0:=cF (w:=w) (w2:=w5) (w.heap.size+1) _ (.bool s) (by omega) c2.size hoc (d_ hwr hbc);have hr1:=aF.alloc hr0.1 (.cells #[.bool s,.slice ac (Wh.a_ z.natAbs).length wX] 125);have hr2:=hr0.2.alloc hr0.2.size (.cells #[.bool s,.slice ac (Wh.a_ z.natAbs).length wX] 125);generalize (Wh.a_ z.natAbs).length=yE at *;exact bodyPost_ret (v:=.tuple #[.agg #[.bool s,.slice ac yE wX],.int .i64 zr]) (by simp [results,Tryz.results179,go_sem, *]) rfl (⟨_,rfl,hr1,hr2⟩)
  have hna:a<0:=by have:=hs1.out;simpa using this
  by_cases hrz:A % n=0
  ·skip
   obtain ⟨hz1,hz2⟩:=d1.out hna hrz;have PT:=PT true;rw [hz1] at PT;rw [hsd.out] at PT;have PT:=wH PT;rw [hz2] at hrz ⊢
   go_wp2_with (go_at_call 171;(with_reducible refine (PT.out _ _ _ hov.out).mono ?_);rintro e w5 ⟨vc,rfl,hoc,hbc⟩;obtain ⟨ac,wX,rfl,hmc,xV⟩:=aF.view hoc;have r5:=c2.keep hbc;have b5:=c1.keep hbc;have p0:=r5.c0;have p1:=r5.c1;have g0:=r5.f0;have g1:=r5.f1;have z5:=r5.size;have y5:=b5.size;have x0:=b5.c0;clear xV hmc)
   have hr0:=cF (w:=w) (w2:=w5) (w.heap.size+1) _ (.bool s) (by omega) c2.size hoc (d_ hwr hbc);have hr1:=aF.alloc hr0.1 (.cells #[.bool s,.slice ac (Wh.a_ z.natAbs).length wX] 125);have hr2:=hr0.2.alloc hr0.2.size (.cells #[.bool s,.slice ac (Wh.a_ z.natAbs).length wX] 125);generalize (Wh.a_ z.natAbs).length=yE at *;exact bodyPost_ret (v:=.tuple #[.agg #[.bool s,.slice ac yE wX],.int .i64 zr]) (by simp [results,Tryz.results179,go_sem, *]) rfl (⟨_,rfl,hr1,hr2⟩)
  obtain ⟨hz1,hz2⟩:=d2.out hna hrz;have PT:=PT true;have hq1:=hq0 true
  have M7:0<A % n:=by have:=Int.emod_nonneg A (show n≠0 by omega);omega
  have hrn:A % n<n:=Int.emod_lt_of_pos _ (by omega);generalize A % n=rr,Wh.yG true (A / n)=y0 at *
  have PW:=fun W=>bj (-1) W (by omega) (by omega)
  have PA:=fun va vb W ba bb (h1:aF W ba va (Wh.a_ y0.natAbs)) (h2:aF W bb vb (Wh.a_ (-1:Int).natAbs))=>fS y0 (-1) va vb W ba bb h1 h2 (by omega) (by have:=Wh.io;omega)
  rw [decide_eq_true (show (-1:Int)<0 by decide)] at PW PA;rw [hz1,hsd.out] at PA;have M8:=M7
  obtain ⟨s0,hs0⟩:∃ s0,decide (y0<0)=s0:=⟨_,rfl⟩
  rw [hs0] at PT PA;have PT:=wH PT;have PW:=wH PW;have PA:=wH PA;replace hz2:=wH hz2;clear hz1 hs0 hq0 hq1 d0 d1 d2 hrz
  go_wp2_with (go_at_call 171;(with_reducible refine (PT.out _ _ _ hov.out).mono ?_);rintro e w5 ⟨vc,rfl,hoc,hbc⟩;obtain ⟨ac,wX,rfl,hmc,xV⟩:=aF.view hoc;have r5:=c2.keep hbc;have b5:=c1.keep hbc;have p0:=r5.c0;have p1:=r5.c1;have g0:=r5.f0;have g1:=r5.f1;have z5:=r5.size;have y5:=b5.size;have x0:=b5.c0;clear xV hmc)
  have bt:=ar.new w5 (.bool s0) (.slice ac (Wh.a_ y0.natAbs).length wX) 125;have r6:=r5.alloc (.cells #[.bool s0,.slice ac (Wh.a_ y0.natAbs).length wX] 125);have GX:=aF.alloc hoc (.cells #[.bool s0,.slice ac (Wh.a_ y0.natAbs).length wX] 125);have B6:=(d_ hwr hbc).alloc (by have:=(d_ hwr hbc).size;omega) (.cells #[.bool s0,.slice ac (Wh.a_ y0.natAbs).length wX] 125);have u0:=bt.c0;have u1:=bt.c1;have zz:w5.heap.size<(w5.alloc (.cells #[.bool s0,.slice ac (Wh.a_ y0.natAbs).length wX] 125)).heap.size:=bt.size;generalize (Wh.a_ y0.natAbs).length=l0,w5.alloc (.cells #[.bool s0,.slice ac (Wh.a_ y0.natAbs).length wX] 125)=w6 at *;clear p0 p1 g0 g1 x0
  go_region_held3 (fun W=>W.cell? ⟨w5.heap.size,0,none⟩=some (.bool s0)∧W.cell? ⟨w5.heap.size,1,none⟩=some (.slice ac l0 wX)) (first | (refine ⟨?_,?_⟩ <;> (first | (with_reducible exact aE (by assumption) (by assumption)) | (with_reducible exact Gr.bJ (by assumption)) | (with_reducible refine Gr.bV (by assumption) ?_;(intro wt;(try simp only [wI,aO,World.heap_drewN,aI] at wt);omega)) | (with_reducible refine Gr.dD (by assumption) ?_ ?_ <;> (intro wt;(try simp only [wI,aO,World.heap_drewN,aI] at wt);omega)) | exact aE (by assumption) (by assumption) | (with_reducible exact bI (by assumption) (by assumption) (by assumption)))) | (go_split_ands;(refine ⟨?_,?_⟩ <;> (first | (with_reducible exact aE (by assumption) (by assumption)) | (with_reducible exact Gr.bJ (by assumption)) | (with_reducible refine Gr.bV (by assumption) ?_;(intro wt;(try simp only [wI,aO,World.heap_drewN,aI] at wt);omega)) | (with_reducible refine Gr.dD (by assumption) ?_ ?_ <;> (intro wt;(try simp only [wI,aO,World.heap_drewN,aI] at wt);omega)) | exact aE (by assumption) (by assumption) | (with_reducible exact bI (by assumption) (by assumption) (by assumption))))) | go_keep) ((first
   | (go_at_call 139;(with_reducible refine (PW.out _).mono ?_);rintro e w7 ⟨v7,rfl,AM,wg⟩;(have GW:aF _ _ _ (Wh.a_ (-1:Int).natAbs):=AM);have Fm:=aE wg (af u0);have yW:=aE wg (af u1);have r7:=r6.drew.keep wg;have B7:=B6.drew.trans (wg.mono B6.size);have GY:=aF.below (aF.below GX (wK _ _).drew) wg;(have z7:w6.heap.size≤w7.heap.size:=wg.size))
   | (go_at_call 140;(with_reducible refine (PA.out _ _ _ _ _ GY GW).mono ?_);rintro e w8 ⟨v8,rfl,yM,xB⟩;obtain ⟨a8,GA,rfl,IJ,NY⟩:=aF.view yM;have y0_:=aE xB Fm;have Bg:=aE xB yW;have r8:=r7.keep xB;have p0:=r8.c0;have p1:=r8.c1;have g0:=r8.f0;have g1:=r8.f1;have B8:=d_ B7 xB;clear NY IJ)
   | fail "ARMS"))
  all_goals
   have hr:=cF (w:=w) (w.heap.size+1) _ (.bool s) (by omega) r7.size yM B8;generalize (Wh.a_ z.natAbs).length=yE at *;go_wp2
   have hwz:IntKind.i64.wrap (n - rr)=n - rr:=by
    rw [IntKind.wrap_i64];omega
   exact bodyPost_ret (v:=.tuple #[.agg #[.bool s,.slice a8 yE GA],.int .i64 (n - rr)]) (by simp [results,Tryz.results179,go_sem, *]) rfl (⟨_,by rw [hz2.out],hr.1,hr.2⟩)
 | succ j=>
 obtain ⟨ga,x,ea,hga,hxa,hca⟩:=hva.out j (by omega);subst ea;have hca:=aE hwr hca;have hr0:=hdi.r0;have hlx:=hla.out x (List.mem_of_getElem? hxa.out);unfold Wh.lim at hlx;have hS:=hdi.step hla.out hxa.out hn2;have hy:=hS.1;have t1:Int.tdiv (r*10000+x) n=(r*10000+x) / n:=Int.tdiv_eq_ediv_of_nonneg hy.1;have t2:Int.tmod (r*10000+x) n=(r*10000+x) % n:=Int.tmod_eq_emod_of_nonneg hy.1;have hpl:=hdi.len;have hqk:q[j]?=some q[j]:=List.getElem?_eq_getElem (by omega);have hc0:=aF.cellAt hpl.symm hown hqk;have hf0:wr.frozen? ⟨w3.heap.size,j,none⟩=false:=es hpl hown j;have hO:=wH (aF.set (j:=j) hpl.symm hown ((r*10000+x) / n) rfl);have hS2:=wH hS.2;have xY:=wH hbr;have f2:=c1.c1;have Jg:w3.heap.size<wr.heap.size:=World.block_lt_of_cell? wr _ hc0
 have hdb:-1000000000000≤(r*10000+x) / n∧(r*10000+x) / n≤10000000000000000:=by
  have h1:=Int.ediv_nonneg hy.1 (show 0≤n by omega);have h2:=Int.ediv_le_self n hy.1;omega
 have hmb:0≤(r*10000+x) % n∧(r*10000+x) % n<n:=⟨Int.emod_nonneg _ (by omega),Int.emod_lt_of_pos _ (by omega)⟩
 generalize (r*10000+x) % n=yr,(r*10000+x) / n=yq,q[j]=qj at *;clear hS hdi hpl hqk hown c1 c2 hxa;go_wp2
 go_roundw
 case rel=>exact ⟨j,_,_,by omega,by go_num,by go_num,hO.out.1,hS2.out,xY.out.setCell (wL _) _⟩
 case measure=>first | (simp [intOf];done) | (simp [intOf];omega)
theorem fU (l:List Int) (v:Value) (i:Nat) (w:World) (base:Nat) (hown:aF w base v l) :
  Calls Tryz.prog 170 #[v,.int .i64 i] w fun e w'=>e=.returned (.int .i64 (Wh.nth l i))∧w=w':=by
 obtain ⟨a,cap,rfl,hm,hv⟩:=hown.seen
 by_cases h:i<l.length
 ·obtain ⟨g,x,rfl,hg,hx,hcell⟩:=hv i h
  have hn:=wH (Wh.cl hx.out);clear hv hm hown hx;go_enter Tryz.func170,Tryz.ntmps170
  go_wp2;go_ret;exact ⟨by rw [hn.out] <;> rfl,rfl⟩
 have hn:=wH (Wh.ck (l:=l) (i:=i) (by omega));clear hv hm hown;go_enter Tryz.func170,Tryz.ntmps170
 go_wp2;go_ret;exact ⟨by rw [hn.out] <;> rfl,rfl⟩
theorem pg (xs ys:List Int) (va vb:Value) (w:World) (ba bb:Nat) (hoa:aF w ba va xs) (xp:aF w bb vb ys) (hla:Wh.bQ xs) (hlb:Wh.bQ ys) (hl1:xs.length≤100000) (hl2:ys.length≤100000) :
  Calls Tryz.prog 200 #[va,vb] w fun e w'=>e=.returned (.int .i64 (Wh.xr (Wh.val xs) (Wh.val ys)))∧Below w.heap.size w w':=by
 have PA:=fun (i:Nat) W h=>fU xs va i W ba h
 have PB:=fun (i:Nat) W h=>fU ys vb i W bb h
 have PM:=fun W=>d9 (xs.length:Int) (ys.length:Int) W
 obtain ⟨L,hL⟩:∃ L:Nat,max (xs.length:Int) (ys.length:Int)=L:=⟨max xs.length ys.length,by omega⟩
 have hx1:xs.length≤L:=by omega
 have hy1:ys.length≤L:=by omega
 have hLb:L≤100000:=by omega
 rw [hL] at PM;have PM:=wH PM;have PA:=wH PA;have PB:=wH PB;obtain ⟨aa,o_,rfl,hma,hva⟩:=hoa.view;obtain ⟨ab,wO,rfl,hmb,hvb⟩:=xp.view;have hoa:=wH hoa;have xp:=wH xp;have hla:=wH hla;have hlb:=wH hlb;clear hma hmb hva hvb hL;go_enter Tryz.func200,Tryz.ntmps200
 go_wp2_with (go_at_call 119;(with_reducible refine (PM.out _).mono ?_);rintro e w1 ⟨rfl,rfl⟩)
 go_loopw [5,6,7,24,28] (fun vi _ _ _ _ wr=>∃ k:Nat,k≤L∧vi=.int .i64 ((k:Int) - 1)∧(∀ q:Nat,k≤q→q<L→Wh.nth xs q=Wh.nth ys q)∧Below w.heap.size w wr) (fun vi _ _ _ _ _=>(intOf vi+1).toNat)
 case atStart=>exact ⟨L,wL _,rfl,fun q h1 h2=>by omega,wK _ _⟩
 case round=>
 obtain ⟨k,hk,rfl,heq,hbr⟩:=hrel;have heq:=wH heq
 cases k with
 | zero=>
  have hz:Hid (Wh.xr (Wh.val xs) (Wh.val ys)=0):=wH (Wh.cmp_eq hx1 hy1 fun q h=>heq.out q (Nat.zero_le _) h);go_wp2;go_ret;exact ⟨by rw [hz.out] <;> rfl,hbr⟩
 | succ j=>
 have QA:=PA.out j;have QB:=PB.out j;have hnx:=wH (rfl:Wh.nth xs j=Wh.nth xs j)
 obtain ⟨x,hx⟩:∃ x,Hid (Wh.nth xs j=x):=⟨_,wH rfl⟩
 obtain ⟨y,hy⟩:∃ y,Hid (Wh.nth ys j=y):=⟨_,wH rfl⟩
 rw [hx.out] at QA;rw [hy.out] at QB;have QA:=wH QA;have QB:=wH QB;clear hnx
 by_cases hxy:x=y
 ·subst hxy
  have heq2:Hid (∀ q:Nat,j≤q→q<L→Wh.nth xs q=Wh.nth ys q):=wH fun q h1 h2=>by
   by_cases hq:q=j
   ·subst hq;rw [hx.out,hy.out]
   exact heq.out q (by omega) h2
  go_wp2_with (go_at_call 170;first
   | ((with_reducible refine (QA.out _ (hoa.out.below hbr)).mono ?_);rintro e w5 ⟨rfl,rfl⟩)
   | ((with_reducible refine (QB.out _ (xp.out.below hbr)).mono ?_);rintro e w6 ⟨rfl,rfl⟩))
  go_roundw
  case rel=>exact ⟨j,by omega,by go_num,heq2.out,hbr⟩
  case measure=>first | (simp [intOf];done) | (simp [intOf];omega)
 by_cases hlt:x<y
 ·have hz:Hid (Wh.xr (Wh.val xs) (Wh.val ys)=-1):=wH (Wh.qw hla.out hlb.out hx1 hy1 (i:=j) (by omega) (fun q h1 h2=>heq.out q (by omega) h2) (by rw [hx.out,hy.out];exact hlt))
  go_wp2_with (go_at_call 170;first
   | ((with_reducible refine (QA.out _ (hoa.out.below hbr)).mono ?_);rintro e w5 ⟨rfl,rfl⟩)
   | ((with_reducible refine (QB.out _ (xp.out.below hbr)).mono ?_);rintro e w6 ⟨rfl,rfl⟩))
  go_ret;exact ⟨by rw [hz.out] <;> rfl,hbr⟩
 have hz:Hid (Wh.xr (Wh.val xs) (Wh.val ys)=1):=wH (Wh.qv hla.out hlb.out hx1 hy1 (i:=j) (by omega) (fun q h1 h2=>heq.out q (by omega) h2) (by rw [hx.out,hy.out];omega))
 have hlt2:y<x:=by omega
 go_wp2_with (go_at_call 170;first
  | ((with_reducible refine (QA.out _ (hoa.out.below hbr)).mono ?_);rintro e w5 ⟨rfl,rfl⟩)
  | ((with_reducible refine (QB.out _ (xp.out.below hbr)).mono ?_);rintro e w6 ⟨rfl,rfl⟩))
 go_ret;exact ⟨by rw [hz.out] <;> rfl,hbr⟩
theorem il (xs ys:List Int) (s:Int) (va vb:Value) (w:World) (ba bb:Nat) (hs:s=1∨s=-1) (hoa:aF w ba va xs) (xp:aF w bb vb ys) (hla:Wh.bQ xs) (hlb:Wh.bQ ys) (hnn:0≤Wh.val xs+s*Wh.val ys) (hl1:xs.length≤100000) (hl2:ys.length≤100000) :
  Calls Tryz.prog 199 #[va,vb,.int .i64 s] w fun e w'=>∃ v,e=.returned v∧jS w' w.heap.size v (Wh.val xs+s*Wh.val ys) (xs.length+ys.length+1)∧Below w.heap.size w w':=by
 have PA:=fun (i:Nat) W h=>fU xs va i W ba h
 have PB:=fun (i:Nat) W h=>fU ys vb i W bb h
 have PA:=wH PA;have PB:=wH PB;obtain ⟨aa,o_,rfl,hma,hva⟩:=hoa.view;obtain ⟨ab,wO,rfl,hmb,hvb⟩:=xp.view;have hoa:=wH hoa;have xp:=wH xp;have hla:=wH hla;have hlb:=wH hlb;have hnn:=wH hnn;clear hma hmb hva hvb
 obtain ⟨L,hL1,hL2,hL3⟩:∃ L:Nat,xs.length≤L∧ys.length≤L∧L≤xs.length+ys.length∧(xs.length=L∨ys.length=L):=⟨max xs.length ys.length,by omega,by omega,by omega⟩
 go_enter Tryz.func199,Tryz.ntmps199
 go_wp2
 go_loopw [7,8,9,10,38,43] (fun vo vc vi _ _ _ wr=>∃ (i:Nat) (o:List Int) (c:Int),i≤L+1∧(L<i→c=0)∧vi=.int .i64 i∧vc=.int .i64 c∧aF wr w.heap.size vo o∧Wh.eo xs ys s i o c∧Below w.heap.size w wr) (fun _ _ vi _ _ _ _=>L+2 - (intOf vi).toNat)
 case atStart=>exact ⟨0,[],0,by omega,fun h=>by omega,rfl,rfl,aF.nil _ _,Wh.eo.start xs ys s,wK _ _⟩
 case round=>
 obtain ⟨i,o,c,hi,hic,rfl,rfl,hown,hai,hbr⟩:=hrel;have hrg:=hai.rng hs hla.out hlb.out;have hol:=hai.len;have A3:=hbr.size;have QA:=PA.out i;have QB:=PB.out i;have Fg:=Wh.jK hlb.out i;unfold Wh.lim at Fg
 have hstep:=wH fun x c' h1 h2 h3 h4=>hai.step (x:=x) (c':=c') h1 h2 h3 h4
 have hsx:-9999≤s*Wh.nth ys i∧s*Wh.nth ys i≤9999:=by rcases hs with rfl | rfl <;> omega
 have hcar:=wH fun h1 h2 h3=>hai.carry hs h1 h2 hnn.out h3
 have hfin:Hid (xs.length≤i→ys.length≤i→c=0→Wh.val xs+s*Wh.val ys=Wh.val o):=wH fun h1 h2 h3=>(hai.all h1 h2).symm.trans (by rw [h3,Int.mul_zero,Int.add_zero])
 have hls:=wH hai.ls;have hown:=wH hown;clear hai;have hnx:=Wh.ck (l:=xs) (i:=i);have hny:=Wh.ck (l:=ys) (i:=i);have hnx:=wH hnx;have hny:=wH hny
 obtain ⟨x,hx⟩:∃ x,Wh.nth xs i=x:=⟨_,rfl⟩
 obtain ⟨y,hy⟩:∃ y,Wh.nth ys i=y:=⟨_,rfl⟩
 rw [hx] at QA hrg hstep hnx;rw [hy] at QB hrg hstep hsx Fg hny;clear hx hy;have QA:=wH QA;have QB:=wH QB;generalize hsb:s*y=sb at *
 by_cases ha:i<xs.length
 ·have hiL:i<L:=by omega
  clear hcar hfin hnx hny
  by_cases hx0:x+sb+c<0
  ·skip
   have hS:=hstep.out (x+sb+c+10000) (-1) ⟨by omega,by omega⟩ (by omega) (by intro h1;first | omega | (rcases hs with h | h <;> omega)) (by intro h1;first | omega | (rcases hs with h | h <;> omega));have hS:=wH hS;clear hstep
   go_wp2_with (first
    | (go_at_call 170;first
     | ((with_reducible refine (QA.out _ (hoa.out.below hbr)).mono ?_);rintro e w5 ⟨rfl,rfl⟩)
     | ((with_reducible refine (QB.out _ (xp.out.below hbr)).mono ?_);rintro e w6 ⟨rfl,rfl⟩))
    | (at_builtin;refine cn (W:=wr) w.heap.size (x+sb+c+10000) _ _ rfl (.tmp 48) (.tmp 50) rfl rfl rfl hown.out (wK _ _) (by omega) (by omega) ?_;rintro v6 w6 hown6 hb6))
   go_roundw
   case rel=>exact ⟨i+1,_,_,by omega,fun h=>by first | rfl | omega,by go_num,by go_num,hown6,hS.out,hbr.trans hb6⟩
   case measure=>simp [intOf];omega
  by_cases hx1:10000≤x+sb+c
  ·skip
   have hS:=hstep.out (x+sb+c - 10000) (1) ⟨by omega,by omega⟩ (by omega) (by intro h1;first | omega | (rcases hs with h | h <;> omega)) (by intro h1;first | omega | (rcases hs with h | h <;> omega));have hS:=wH hS;clear hstep
   go_wp2_with (first
    | (go_at_call 170;first
     | ((with_reducible refine (QA.out _ (hoa.out.below hbr)).mono ?_);rintro e w5 ⟨rfl,rfl⟩)
     | ((with_reducible refine (QB.out _ (xp.out.below hbr)).mono ?_);rintro e w6 ⟨rfl,rfl⟩))
    | (at_builtin;refine cn (W:=wr) w.heap.size (x+sb+c - 10000) _ _ rfl (.tmp 48) (.tmp 50) rfl rfl rfl hown.out (wK _ _) (by omega) (by omega) ?_;rintro v6 w6 hown6 hb6))
   go_roundw
   case rel=>exact ⟨i+1,_,_,by omega,fun h=>by first | rfl | omega,by go_num,by go_num,hown6,hS.out,hbr.trans hb6⟩
   case measure=>simp [intOf];omega
  skip
  have hS:=hstep.out (x+sb+c) (0) ⟨by omega,by omega⟩ (by omega) (by intro h1;first | omega | (rcases hs with h | h <;> omega)) (by intro h1;first | omega | (rcases hs with h | h <;> omega));have hS:=wH hS;clear hstep
  go_wp2_with (first
   | (go_at_call 170;first
    | ((with_reducible refine (QA.out _ (hoa.out.below hbr)).mono ?_);rintro e w5 ⟨rfl,rfl⟩)
    | ((with_reducible refine (QB.out _ (xp.out.below hbr)).mono ?_);rintro e w6 ⟨rfl,rfl⟩))
   | (at_builtin;refine cn (W:=wr) w.heap.size (x+sb+c) _ _ rfl (.tmp 48) (.tmp 50) rfl rfl rfl hown.out (wK _ _) (by omega) (by omega) ?_;rintro v6 w6 hown6 hb6))
  go_roundw
  case rel=>exact ⟨i+1,_,_,by omega,fun h=>by first | rfl | omega,by go_num,by go_num,hown6,hS.out,hbr.trans hb6⟩
  case measure=>simp [intOf];omega
 by_cases hb:i<ys.length
 ·have hiL:i<L:=by omega
  clear hcar hfin hnx hny
  by_cases hx0:x+sb+c<0
  ·skip
   have hS:=hstep.out (x+sb+c+10000) (-1) ⟨by omega,by omega⟩ (by omega) (by intro h1;first | omega | (rcases hs with h | h <;> omega)) (by intro h1;first | omega | (rcases hs with h | h <;> omega));have hS:=wH hS;clear hstep
   go_wp2_with (first
    | (go_at_call 170;first
     | ((with_reducible refine (QA.out _ (hoa.out.below hbr)).mono ?_);rintro e w5 ⟨rfl,rfl⟩)
     | ((with_reducible refine (QB.out _ (xp.out.below hbr)).mono ?_);rintro e w6 ⟨rfl,rfl⟩))
    | (at_builtin;refine cn (W:=wr) w.heap.size (x+sb+c+10000) _ _ rfl (.tmp 48) (.tmp 50) rfl rfl rfl hown.out (wK _ _) (by omega) (by omega) ?_;rintro v6 w6 hown6 hb6))
   go_roundw
   case rel=>exact ⟨i+1,_,_,by omega,fun h=>by first | rfl | omega,by go_num,by go_num,hown6,hS.out,hbr.trans hb6⟩
   case measure=>simp [intOf];omega
  by_cases hx1:10000≤x+sb+c
  ·skip
   have hS:=hstep.out (x+sb+c - 10000) (1) ⟨by omega,by omega⟩ (by omega) (by intro h1;first | omega | (rcases hs with h | h <;> omega)) (by intro h1;first | omega | (rcases hs with h | h <;> omega));have hS:=wH hS;clear hstep
   go_wp2_with (first
    | (go_at_call 170;first
     | ((with_reducible refine (QA.out _ (hoa.out.below hbr)).mono ?_);rintro e w5 ⟨rfl,rfl⟩)
     | ((with_reducible refine (QB.out _ (xp.out.below hbr)).mono ?_);rintro e w6 ⟨rfl,rfl⟩))
    | (at_builtin;refine cn (W:=wr) w.heap.size (x+sb+c - 10000) _ _ rfl (.tmp 48) (.tmp 50) rfl rfl rfl hown.out (wK _ _) (by omega) (by omega) ?_;rintro v6 w6 hown6 hb6))
   go_roundw
   case rel=>exact ⟨i+1,_,_,by omega,fun h=>by first | rfl | omega,by go_num,by go_num,hown6,hS.out,hbr.trans hb6⟩
   case measure=>simp [intOf];omega
  skip
  have hS:=hstep.out (x+sb+c) (0) ⟨by omega,by omega⟩ (by omega) (by intro h1;first | omega | (rcases hs with h | h <;> omega)) (by intro h1;first | omega | (rcases hs with h | h <;> omega));have hS:=wH hS;clear hstep
  go_wp2_with (first
   | (go_at_call 170;first
    | ((with_reducible refine (QA.out _ (hoa.out.below hbr)).mono ?_);rintro e w5 ⟨rfl,rfl⟩)
    | ((with_reducible refine (QB.out _ (xp.out.below hbr)).mono ?_);rintro e w6 ⟨rfl,rfl⟩))
   | (at_builtin;refine cn (W:=wr) w.heap.size (x+sb+c) _ _ rfl (.tmp 48) (.tmp 50) rfl rfl rfl hown.out (wK _ _) (by omega) (by omega) ?_;rintro v6 w6 hown6 hb6))
  go_roundw
  case rel=>exact ⟨i+1,_,_,by omega,fun h=>by first | rfl | omega,by go_num,by go_num,hown6,hS.out,hbr.trans hb6⟩
  case measure=>simp [intOf];omega
 by_cases hc0:c=0
 ·subst hc0
  have hv:=hfin.out (by omega) (by omega) rfl
  have hres:Hid (∀ vo W b,aF W b vo o→jS W b vo (Wh.val xs+s*Wh.val ys) (xs.length+ys.length+1)):=wH fun vo W b h=>⟨o,h,hls.out,hv.symm,by omega⟩
  clear hstep hcar hfin hnx hny hv;go_wp2;go_ret;exact ⟨_,rfl,hres.out _ _ _ hown.out,hbr⟩
 have hc1:=hcar.out (by omega) (by omega) hc0
 have hiL:i≤L:=by
  by_cases h:L<i
  ·exact absurd (hic h) hc0
  omega
 have hx0_:=hnx.out (by omega);have Nd:=hny.out (by omega)
 have FF:sb=0:=by rw [←hsb,Nd,Int.mul_zero]
 clear hcar hfin hnx hny
 by_cases hx0:x+sb+c<0
 ·skip
  exfalso;omega
 by_cases hx1:10000≤x+sb+c
 ·skip
  exfalso;omega
 skip
 have hS:=hstep.out (1) (0) ⟨by omega,by omega⟩ (by omega) (by intro h1;first | omega | (rcases hs with h | h <;> omega)) (by intro h1;first | omega | (rcases hs with h | h <;> omega));have hS:=wH hS;clear hstep
 go_wp2_with (first
  | (go_at_call 170;first
   | ((with_reducible refine (QA.out _ (hoa.out.below hbr)).mono ?_);rintro e w5 ⟨rfl,rfl⟩)
   | ((with_reducible refine (QB.out _ (xp.out.below hbr)).mono ?_);rintro e w6 ⟨rfl,rfl⟩))
  | (at_builtin;refine cn (W:=wr) w.heap.size (1) _ _ rfl (.tmp 48) (.tmp 50) rfl rfl rfl hown.out (wK _ _) (by omega) (by omega) ?_;rintro v6 w6 hown6 hb6))
 go_roundw
 case rel=>exact ⟨i+1,_,_,by omega,fun h=>by first | rfl | omega,by go_num,by go_num,hown6,hS.out,hbr.trans hb6⟩
 case measure=>simp [intOf];omega
theorem fv (z y:Int) (n:Nat) (neg:Bool) (v:Value) (w:World) (base:Nat) (ho:jS w base v y n) (hn:n≤1000000) (hz:Wh.yG neg y=z) :
  Calls Tryz.prog 168 #[.bool neg,v] w fun e w'=>∃ sl,e=.returned (.agg #[.bool (decide (z<0)),sl])∧ak w' w.heap.size sl z∧Below w.heap.size w w':=by
 obtain ⟨o,h1,h2,h3,h4⟩:=ho;exact fw z neg o v w base h1 h2 (by omega) (by rw [h3];exact hz)
theorem jG (a b:Int) (va vb:Value) (w:World) (ba bb:Nat) (hoa:ak w ba va a) (xp:ak w bb vb b) (hl1:(Wh.a_ a.natAbs).length≤10000) (hl2:(Wh.a_ b.natAbs).length≤10000) :
  Calls Tryz.prog 184 #[.agg #[.bool (decide (a<0)),va],.agg #[.bool (decide (b<0)),vb]] w fun e w'=>∃ sl,e=.returned (.agg #[.bool (decide (a+b<0)),sl])∧ak w' w.heap.size sl (a+b)∧Below w.heap.size w w':=by
 obtain ⟨aa,o_,rfl,-,-⟩:=aF.view hoa;obtain ⟨ab,wO,rfl,-,-⟩:=aF.view xp
 have PA:=fun s hs h0 W h1 h2=>il (Wh.a_ a.natAbs) (Wh.a_ b.natAbs) s (.slice aa (Wh.a_ a.natAbs).length o_) (.slice ab (Wh.a_ b.natAbs).length wO) W ba bb hs h1 h2 (Wh.bD _) (Wh.bD _) h0 (by omega) (by omega)
 rw [Wh.bR,Wh.bR] at PA
 have PA':=fun s hs h0 W h1 h2=>il (Wh.a_ b.natAbs) (Wh.a_ a.natAbs) s (.slice ab (Wh.a_ b.natAbs).length wO) (.slice aa (Wh.a_ a.natAbs).length o_) W bb ba hs h1 h2 (Wh.bD _) (Wh.bD _) h0 (by omega) (by omega)
 rw [Wh.bR,Wh.bR] at PA'
 have PO:=fun W h1 h2=>pg (Wh.a_ a.natAbs) (Wh.a_ b.natAbs) (.slice aa (Wh.a_ a.natAbs).length o_) (.slice ab (Wh.a_ b.natAbs).length wO) W ba bb h1 h2 (Wh.bD _) (Wh.bD _) (by omega) (by omega)
 rw [Wh.bR,Wh.bR] at PO
 have PT:=fun s y (h:Wh.yG s y=a+b) W v base ho=>fv (a+b) y ((Wh.a_ a.natAbs).length+(Wh.a_ b.natAbs).length+1) s v W base ho (by omega) h
 have EF:=fun s y (h:Wh.yG s y=a+b) W v base ho=>fv (a+b) y ((Wh.a_ b.natAbs).length+(Wh.a_ a.natAbs).length+1) s v W base ho (by omega) h
 have AG:Hid (∀ W,Below w.heap.size w W→aF W ba (.slice aa (Wh.a_ a.natAbs).length o_) (Wh.a_ a.natAbs)):=wH fun W h=>aF.below hoa h
 have Al:Hid (∀ W,Below w.heap.size w W→aF W bb (.slice ab (Wh.a_ b.natAbs).length wO) (Wh.a_ b.natAbs)):=wH fun W h=>aF.below xp h
 obtain ⟨s1,hs1⟩:∃ s,decide (a<0)=s:=⟨_,rfl⟩
 obtain ⟨s2,hs2⟩:∃ s,decide (b<0)=s:=⟨_,rfl⟩
 clear hoa xp
 by_cases hss:s1=s2
 ·subst hss
  have PT:=wH (PT s1 _ (Wh.add_same hs1 hs2));have PA:=wH (PA 1 (Or.inl rfl) (by omega));rw [hs1,hs2];clear hs1 hs2 PA' EF PO;generalize (a.natAbs:Int)+1*(b.natAbs:Int)=y at *;generalize Wh.a_ b.natAbs=ys,Wh.a_ a.natAbs=xs,a+b=z at *;generalize decide (z<0)=s,ys.length=l2,xs.length=l1 at *;have b1:=((ar.new w (.bool s1) (.slice aa l1 o_) 125).alloc (.cells #[.bool s1,.slice ab l2 wO] 125)).alloc (.cells #[.bool false,.slice none 0 0] 125);have b2:=(ar.new2 w (.cells #[.bool s1,.slice aa l1 o_] 125) (.bool s1) (.slice ab l2 wO) 125).alloc (.cells #[.bool false,.slice none 0 0] 125);have b3:=ar.new2 (w.alloc (.cells #[.bool s1,.slice aa l1 o_] 125)) (.cells #[.bool s1,.slice ab l2 wO] 125) (.bool false) (.slice none 0 0) 125;rw [wI] at b3;have hB:=(((wK w.heap.size w).alloc (wL _) (.cells #[.bool s1,.slice aa l1 o_] 125)).alloc (by rw [wI];omega) (.cells #[.bool s1,.slice ab l2 wO] 125)).alloc (by rw [wI,wI];omega) (.cells #[.bool false,.slice none 0 0] 125);generalize hw3:((w.alloc (.cells #[.bool s1,.slice aa l1 o_] 125)).alloc (.cells #[.bool s1,.slice ab l2 wO] 125)).alloc (.cells #[.bool false,.slice none 0 0] 125)=w3 at *;have n1:=b1;have n2:=b2;have n3:=b3;have Bn:=hB;clear b1 b2 b3;have e1:=n1.c0;have e2:=n1.c1;have e3:=n2.c0;have e4:=n2.c1;go_enter Tryz.func184,Tryz.ntmps184
  go_wp2
  go_region_held3 (fun W=>W.cell? ⟨w.heap.size,0,none⟩=some (.bool s1)∧W.cell? ⟨w.heap.size,1,none⟩=some (.slice aa l1 o_)∧W.cell? ⟨w.heap.size+1,0,none⟩=some (.bool s1)∧W.cell? ⟨w.heap.size+1,1,none⟩=some (.slice ab l2 wO)) (first | (refine ⟨?_,?_,?_,?_⟩ <;> (first | (with_reducible exact aE (by assumption) (by assumption)) | (with_reducible exact Gr.bJ (by assumption)) | (with_reducible refine Gr.bV (by assumption) ?_;(intro wt;(try simp only [wI,aO,World.heap_drewN,aI] at wt);omega)) | (with_reducible refine Gr.dD (by assumption) ?_ ?_ <;> (intro wt;(try simp only [wI,aO,World.heap_drewN,aI] at wt);omega)) | exact aE (by assumption) (by assumption) | (with_reducible exact bI (by assumption) (by assumption) (by assumption)))) | (go_split_ands;(refine ⟨?_,?_,?_,?_⟩ <;> (first | (with_reducible exact aE (by assumption) (by assumption)) | (with_reducible exact Gr.bJ (by assumption)) | (with_reducible refine Gr.bV (by assumption) ?_;(intro wt;(try simp only [wI,aO,World.heap_drewN,aI] at wt);omega)) | (with_reducible refine Gr.dD (by assumption) ?_ ?_ <;> (intro wt;(try simp only [wI,aO,World.heap_drewN,aI] at wt);omega)) | exact aE (by assumption) (by assumption) | (with_reducible exact bI (by assumption) (by assumption) (by assumption))))) | go_keep) ((first
   | (go_at_call 199;(with_reducible refine (PA.out _ (AG.out _ Bn.drew) (Al.out _ Bn.drew)).mono ?_);rintro e w4 ⟨v4,rfl,xF,hb4⟩;have B4:=Bn.drew.trans (hb4.mono Bn.size);have r4:=n3.drew.keep hb4;have yW:=aE hb4 (af e1);have zR:=aE hb4 (af e2);have Af:=aE hb4 (af e3);have Aw:=aE hb4 (af e4);(have z4:w3.heap.size≤w4.heap.size:=hb4.size))
   | (go_at_call 168;(with_reducible refine (PT.out _ _ _ xF).mono ?_);rintro e w5 ⟨vc,rfl,hoc,hbc⟩;obtain ⟨ac,wX,rfl,hmc,xV⟩:=aF.view hoc;have B5:=d_ B4 hbc;have r5:=r4.keep hbc;have c0:=r5.c0;have c1:=r5.c1;have g0:=r5.f0;have g1:=r5.f1;have Bg:=aE hbc yW;have Cf:=aE hbc zR;have EE:=aE hbc Af;have ES:=aE hbc Aw;clear xV hmc)
   | fail "ARMS"))
  all_goals
   have hr:=cF (w:=w) (w.heap.size+1+1) _ (.bool s) (by omega) (Nat.lt_of_lt_of_le n3.size z4) hoc B5;generalize (Wh.a_ z.natAbs).length=yE at *;go_wp2;exact bodyPost_ret (v:=.agg #[.bool s,.slice ac yE wX]) (by simp [results,Tryz.results184,go_sem, *]) rfl (⟨_,rfl,hr.1,hr.2⟩)
 have hx:(s1=false∧s2=true)∨(s1=true∧s2=false):=by cases s1 <;> cases s2 <;> simp_all
 clear hss
 rcases hx with ⟨rfl,rfl⟩ | ⟨rfl,rfl⟩
 ·skip
  have hd:=Wh.db (a:=a) (b:=b) hs1 hs2;have hd':=Wh.db (a:=b) (b:=a) hs2 hs1;rw [Int.add_comm b a] at hd';rw [hs1,hs2];clear hs1 hs2
  by_cases hlt:a.natAbs<b.natAbs
  ·skip
   have PT:=wH (EF true _ hd');have PA:=wH (PA' (-1) (Or.inr rfl) (by omega));rw [Wh.fg (by omega)] at PO;have PO:=wH PO;clear hlt hd hd' EF PA';generalize (b.natAbs:Int)+-1*(a.natAbs:Int)=y at *;generalize Wh.a_ b.natAbs=ys,Wh.a_ a.natAbs=xs,a+b=z at *;generalize decide (z<0)=s,ys.length=l2,xs.length=l1 at *;have b1:=((ar.new w (.bool false) (.slice aa l1 o_) 125).alloc (.cells #[.bool true,.slice ab l2 wO] 125)).alloc (.cells #[.bool false,.slice none 0 0] 125);have b2:=(ar.new2 w (.cells #[.bool false,.slice aa l1 o_] 125) (.bool true) (.slice ab l2 wO) 125).alloc (.cells #[.bool false,.slice none 0 0] 125);have b3:=ar.new2 (w.alloc (.cells #[.bool false,.slice aa l1 o_] 125)) (.cells #[.bool true,.slice ab l2 wO] 125) (.bool false) (.slice none 0 0) 125;rw [wI] at b3;have hB:=(((wK w.heap.size w).alloc (wL _) (.cells #[.bool false,.slice aa l1 o_] 125)).alloc (by rw [wI];omega) (.cells #[.bool true,.slice ab l2 wO] 125)).alloc (by rw [wI,wI];omega) (.cells #[.bool false,.slice none 0 0] 125);generalize hw3:((w.alloc (.cells #[.bool false,.slice aa l1 o_] 125)).alloc (.cells #[.bool true,.slice ab l2 wO] 125)).alloc (.cells #[.bool false,.slice none 0 0] 125)=w3 at *;have i1:=b1.c0;have i2:=b1.c1;have i3:=b2.c0;have i4:=b2.c1;go_enter Tryz.func184,Tryz.ntmps184
   go_wp2_with (go_at_call 200;(with_reducible refine (PO.out _ (AG.out _ hB) (Al.out _ hB)).mono ?_);rintro e wm ⟨rfl,xx⟩;have n1:=b1.keep xx;have n2:=b2.keep xx;have n3:=b3.keep xx;have Bn:=d_ hB xx)
   clear i1 i2 i3 i4 b1 b2 b3 xx;have e1:=n1.c0;have e2:=n1.c1;have e3:=n2.c0;have e4:=n2.c1
   go_region_held3 (fun W=>W.cell? ⟨w.heap.size,0,none⟩=some (.bool false)∧W.cell? ⟨w.heap.size,1,none⟩=some (.slice aa l1 o_)∧W.cell? ⟨w.heap.size+1,0,none⟩=some (.bool true)∧W.cell? ⟨w.heap.size+1,1,none⟩=some (.slice ab l2 wO)) (first | (refine ⟨?_,?_,?_,?_⟩ <;> (first | (with_reducible exact aE (by assumption) (by assumption)) | (with_reducible exact Gr.bJ (by assumption)) | (with_reducible refine Gr.bV (by assumption) ?_;(intro wt;(try simp only [wI,aO,World.heap_drewN,aI] at wt);omega)) | (with_reducible refine Gr.dD (by assumption) ?_ ?_ <;> (intro wt;(try simp only [wI,aO,World.heap_drewN,aI] at wt);omega)) | exact aE (by assumption) (by assumption) | (with_reducible exact bI (by assumption) (by assumption) (by assumption)))) | (go_split_ands;(refine ⟨?_,?_,?_,?_⟩ <;> (first | (with_reducible exact aE (by assumption) (by assumption)) | (with_reducible exact Gr.bJ (by assumption)) | (with_reducible refine Gr.bV (by assumption) ?_;(intro wt;(try simp only [wI,aO,World.heap_drewN,aI] at wt);omega)) | (with_reducible refine Gr.dD (by assumption) ?_ ?_ <;> (intro wt;(try simp only [wI,aO,World.heap_drewN,aI] at wt);omega)) | exact aE (by assumption) (by assumption) | (with_reducible exact bI (by assumption) (by assumption) (by assumption))))) | go_keep) ((first
    | (go_at_call 199;(with_reducible refine (PA.out _ (Al.out _ Bn.drew) (AG.out _ Bn.drew)).mono ?_);rintro e w4 ⟨v4,rfl,xF,hb4⟩;have B4:=Bn.drew.trans (hb4.mono Bn.size);have r4:=n3.drew.keep hb4;have yW:=aE hb4 (af e1);have zR:=aE hb4 (af e2);have Af:=aE hb4 (af e3);have Aw:=aE hb4 (af e4);(have z4:wm.heap.size≤w4.heap.size:=hb4.size))
    | (go_at_call 168;(with_reducible refine (PT.out _ _ _ xF).mono ?_);rintro e w5 ⟨vc,rfl,hoc,hbc⟩;obtain ⟨ac,wX,rfl,hmc,xV⟩:=aF.view hoc;have B5:=d_ B4 hbc;have r5:=r4.keep hbc;have c0:=r5.c0;have c1:=r5.c1;have g0:=r5.f0;have g1:=r5.f1;have Bg:=aE hbc yW;have Cf:=aE hbc zR;have EE:=aE hbc Af;have ES:=aE hbc Aw;clear xV hmc)
    | fail "ARMS"))
   all_goals
    have hr:=cF (w:=w) (w.heap.size+1+1) _ (.bool s) (by omega) (Nat.lt_of_lt_of_le n3.size z4) hoc B5;generalize (Wh.a_ z.natAbs).length=yE at *;go_wp2;exact bodyPost_ret (v:=.agg #[.bool s,.slice ac yE wX]) (by simp [results,Tryz.results184,go_sem, *]) rfl (⟨_,rfl,hr.1,hr.2⟩)
  skip
  have PT:=wH (PT false _ hd);have PA:=wH (PA (-1) (Or.inr rfl) (by omega))
  have hr0:0≤Wh.xr (a.natAbs:Int) (b.natAbs:Int):=by unfold Wh.xr;rw [if_neg (by omega)];split <;> omega
  generalize Wh.xr (a.natAbs:Int) (b.natAbs:Int)=rr at *;have PO:=wH PO;clear hlt hd hd' EF PA';generalize (a.natAbs:Int)+-1*(b.natAbs:Int)=y at *;generalize Wh.a_ b.natAbs=ys,Wh.a_ a.natAbs=xs,a+b=z at *;generalize decide (z<0)=s,ys.length=l2,xs.length=l1 at *;have b1:=((ar.new w (.bool false) (.slice aa l1 o_) 125).alloc (.cells #[.bool true,.slice ab l2 wO] 125)).alloc (.cells #[.bool false,.slice none 0 0] 125);have b2:=(ar.new2 w (.cells #[.bool false,.slice aa l1 o_] 125) (.bool true) (.slice ab l2 wO) 125).alloc (.cells #[.bool false,.slice none 0 0] 125);have b3:=ar.new2 (w.alloc (.cells #[.bool false,.slice aa l1 o_] 125)) (.cells #[.bool true,.slice ab l2 wO] 125) (.bool false) (.slice none 0 0) 125;rw [wI] at b3;have hB:=(((wK w.heap.size w).alloc (wL _) (.cells #[.bool false,.slice aa l1 o_] 125)).alloc (by rw [wI];omega) (.cells #[.bool true,.slice ab l2 wO] 125)).alloc (by rw [wI,wI];omega) (.cells #[.bool false,.slice none 0 0] 125);generalize hw3:((w.alloc (.cells #[.bool false,.slice aa l1 o_] 125)).alloc (.cells #[.bool true,.slice ab l2 wO] 125)).alloc (.cells #[.bool false,.slice none 0 0] 125)=w3 at *;have i1:=b1.c0;have i2:=b1.c1;have i3:=b2.c0;have i4:=b2.c1;go_enter Tryz.func184,Tryz.ntmps184
  go_wp2_with (go_at_call 200;(with_reducible refine (PO.out _ (AG.out _ hB) (Al.out _ hB)).mono ?_);rintro e wm ⟨rfl,xx⟩;have n1:=b1.keep xx;have n2:=b2.keep xx;have n3:=b3.keep xx;have Bn:=d_ hB xx)
  clear i1 i2 i3 i4 b1 b2 b3 xx;have e1:=n1.c0;have e2:=n1.c1;have e3:=n2.c0;have e4:=n2.c1
  go_region_held3 (fun W=>W.cell? ⟨w.heap.size,0,none⟩=some (.bool false)∧W.cell? ⟨w.heap.size,1,none⟩=some (.slice aa l1 o_)∧W.cell? ⟨w.heap.size+1,0,none⟩=some (.bool true)∧W.cell? ⟨w.heap.size+1,1,none⟩=some (.slice ab l2 wO)) (first | (refine ⟨?_,?_,?_,?_⟩ <;> (first | (with_reducible exact aE (by assumption) (by assumption)) | (with_reducible exact Gr.bJ (by assumption)) | (with_reducible refine Gr.bV (by assumption) ?_;(intro wt;(try simp only [wI,aO,World.heap_drewN,aI] at wt);omega)) | (with_reducible refine Gr.dD (by assumption) ?_ ?_ <;> (intro wt;(try simp only [wI,aO,World.heap_drewN,aI] at wt);omega)) | exact aE (by assumption) (by assumption) | (with_reducible exact bI (by assumption) (by assumption) (by assumption)))) | (go_split_ands;(refine ⟨?_,?_,?_,?_⟩ <;> (first | (with_reducible exact aE (by assumption) (by assumption)) | (with_reducible exact Gr.bJ (by assumption)) | (with_reducible refine Gr.bV (by assumption) ?_;(intro wt;(try simp only [wI,aO,World.heap_drewN,aI] at wt);omega)) | (with_reducible refine Gr.dD (by assumption) ?_ ?_ <;> (intro wt;(try simp only [wI,aO,World.heap_drewN,aI] at wt);omega)) | exact aE (by assumption) (by assumption) | (with_reducible exact bI (by assumption) (by assumption) (by assumption))))) | go_keep) ((first
   | (go_at_call 199;(with_reducible refine (PA.out _ (AG.out _ Bn.drew) (Al.out _ Bn.drew)).mono ?_);rintro e w4 ⟨v4,rfl,xF,hb4⟩;have B4:=Bn.drew.trans (hb4.mono Bn.size);have r4:=n3.drew.keep hb4;have yW:=aE hb4 (af e1);have zR:=aE hb4 (af e2);have Af:=aE hb4 (af e3);have Aw:=aE hb4 (af e4);(have z4:wm.heap.size≤w4.heap.size:=hb4.size))
   | (go_at_call 168;(with_reducible refine (PT.out _ _ _ xF).mono ?_);rintro e w5 ⟨vc,rfl,hoc,hbc⟩;obtain ⟨ac,wX,rfl,hmc,xV⟩:=aF.view hoc;have B5:=d_ B4 hbc;have r5:=r4.keep hbc;have c0:=r5.c0;have c1:=r5.c1;have g0:=r5.f0;have g1:=r5.f1;have Bg:=aE hbc yW;have Cf:=aE hbc zR;have EE:=aE hbc Af;have ES:=aE hbc Aw;clear xV hmc)
   | fail "ARMS"))
  all_goals
   have hr:=cF (w:=w) (w.heap.size+1+1) _ (.bool s) (by omega) (Nat.lt_of_lt_of_le n3.size z4) hoc B5;generalize (Wh.a_ z.natAbs).length=yE at *;go_wp2;exact bodyPost_ret (v:=.agg #[.bool s,.slice ac yE wX]) (by simp [results,Tryz.results184,go_sem, *]) rfl (⟨_,rfl,hr.1,hr.2⟩)
 skip
 have hd:=Wh.db (a:=a) (b:=b) hs1 hs2;have hd':=Wh.db (a:=b) (b:=a) hs2 hs1;rw [Int.add_comm b a] at hd';rw [hs1,hs2];clear hs1 hs2
 by_cases hlt:a.natAbs<b.natAbs
 ·skip
  have PT:=wH (EF false _ hd');have PA:=wH (PA' (-1) (Or.inr rfl) (by omega));rw [Wh.fg (by omega)] at PO;have PO:=wH PO;clear hlt hd hd' EF PA';generalize (b.natAbs:Int)+-1*(a.natAbs:Int)=y at *;generalize Wh.a_ b.natAbs=ys,Wh.a_ a.natAbs=xs,a+b=z at *;generalize decide (z<0)=s,ys.length=l2,xs.length=l1 at *;have b1:=((ar.new w (.bool true) (.slice aa l1 o_) 125).alloc (.cells #[.bool false,.slice ab l2 wO] 125)).alloc (.cells #[.bool false,.slice none 0 0] 125);have b2:=(ar.new2 w (.cells #[.bool true,.slice aa l1 o_] 125) (.bool false) (.slice ab l2 wO) 125).alloc (.cells #[.bool false,.slice none 0 0] 125);have b3:=ar.new2 (w.alloc (.cells #[.bool true,.slice aa l1 o_] 125)) (.cells #[.bool false,.slice ab l2 wO] 125) (.bool false) (.slice none 0 0) 125;rw [wI] at b3;have hB:=(((wK w.heap.size w).alloc (wL _) (.cells #[.bool true,.slice aa l1 o_] 125)).alloc (by rw [wI];omega) (.cells #[.bool false,.slice ab l2 wO] 125)).alloc (by rw [wI,wI];omega) (.cells #[.bool false,.slice none 0 0] 125);generalize hw3:((w.alloc (.cells #[.bool true,.slice aa l1 o_] 125)).alloc (.cells #[.bool false,.slice ab l2 wO] 125)).alloc (.cells #[.bool false,.slice none 0 0] 125)=w3 at *;have i1:=b1.c0;have i2:=b1.c1;have i3:=b2.c0;have i4:=b2.c1;go_enter Tryz.func184,Tryz.ntmps184
  go_wp2_with (go_at_call 200;(with_reducible refine (PO.out _ (AG.out _ hB) (Al.out _ hB)).mono ?_);rintro e wm ⟨rfl,xx⟩;have n1:=b1.keep xx;have n2:=b2.keep xx;have n3:=b3.keep xx;have Bn:=d_ hB xx)
  clear i1 i2 i3 i4 b1 b2 b3 xx;have e1:=n1.c0;have e2:=n1.c1;have e3:=n2.c0;have e4:=n2.c1
  go_region_held3 (fun W=>W.cell? ⟨w.heap.size,0,none⟩=some (.bool true)∧W.cell? ⟨w.heap.size,1,none⟩=some (.slice aa l1 o_)∧W.cell? ⟨w.heap.size+1,0,none⟩=some (.bool false)∧W.cell? ⟨w.heap.size+1,1,none⟩=some (.slice ab l2 wO)) (first | (refine ⟨?_,?_,?_,?_⟩ <;> (first | (with_reducible exact aE (by assumption) (by assumption)) | (with_reducible exact Gr.bJ (by assumption)) | (with_reducible refine Gr.bV (by assumption) ?_;(intro wt;(try simp only [wI,aO,World.heap_drewN,aI] at wt);omega)) | (with_reducible refine Gr.dD (by assumption) ?_ ?_ <;> (intro wt;(try simp only [wI,aO,World.heap_drewN,aI] at wt);omega)) | exact aE (by assumption) (by assumption) | (with_reducible exact bI (by assumption) (by assumption) (by assumption)))) | (go_split_ands;(refine ⟨?_,?_,?_,?_⟩ <;> (first | (with_reducible exact aE (by assumption) (by assumption)) | (with_reducible exact Gr.bJ (by assumption)) | (with_reducible refine Gr.bV (by assumption) ?_;(intro wt;(try simp only [wI,aO,World.heap_drewN,aI] at wt);omega)) | (with_reducible refine Gr.dD (by assumption) ?_ ?_ <;> (intro wt;(try simp only [wI,aO,World.heap_drewN,aI] at wt);omega)) | exact aE (by assumption) (by assumption) | (with_reducible exact bI (by assumption) (by assumption) (by assumption))))) | go_keep) ((first
   | (go_at_call 199;(with_reducible refine (PA.out _ (Al.out _ Bn.drew) (AG.out _ Bn.drew)).mono ?_);rintro e w4 ⟨v4,rfl,xF,hb4⟩;have B4:=Bn.drew.trans (hb4.mono Bn.size);have r4:=n3.drew.keep hb4;have yW:=aE hb4 (af e1);have zR:=aE hb4 (af e2);have Af:=aE hb4 (af e3);have Aw:=aE hb4 (af e4);(have z4:wm.heap.size≤w4.heap.size:=hb4.size))
   | (go_at_call 168;(with_reducible refine (PT.out _ _ _ xF).mono ?_);rintro e w5 ⟨vc,rfl,hoc,hbc⟩;obtain ⟨ac,wX,rfl,hmc,xV⟩:=aF.view hoc;have B5:=d_ B4 hbc;have r5:=r4.keep hbc;have c0:=r5.c0;have c1:=r5.c1;have g0:=r5.f0;have g1:=r5.f1;have Bg:=aE hbc yW;have Cf:=aE hbc zR;have EE:=aE hbc Af;have ES:=aE hbc Aw;clear xV hmc)
   | fail "ARMS"))
  all_goals
   have hr:=cF (w:=w) (w.heap.size+1+1) _ (.bool s) (by omega) (Nat.lt_of_lt_of_le n3.size z4) hoc B5;generalize (Wh.a_ z.natAbs).length=yE at *;go_wp2;exact bodyPost_ret (v:=.agg #[.bool s,.slice ac yE wX]) (by simp [results,Tryz.results184,go_sem, *]) rfl (⟨_,rfl,hr.1,hr.2⟩)
 skip
 have PT:=wH (PT true _ hd);have PA:=wH (PA (-1) (Or.inr rfl) (by omega))
 have hr0:0≤Wh.xr (a.natAbs:Int) (b.natAbs:Int):=by unfold Wh.xr;rw [if_neg (by omega)];split <;> omega
 generalize Wh.xr (a.natAbs:Int) (b.natAbs:Int)=rr at *;have PO:=wH PO;clear hlt hd hd' EF PA';generalize (a.natAbs:Int)+-1*(b.natAbs:Int)=y at *;generalize Wh.a_ b.natAbs=ys,Wh.a_ a.natAbs=xs,a+b=z at *;generalize decide (z<0)=s,ys.length=l2,xs.length=l1 at *;have b1:=((ar.new w (.bool true) (.slice aa l1 o_) 125).alloc (.cells #[.bool false,.slice ab l2 wO] 125)).alloc (.cells #[.bool false,.slice none 0 0] 125);have b2:=(ar.new2 w (.cells #[.bool true,.slice aa l1 o_] 125) (.bool false) (.slice ab l2 wO) 125).alloc (.cells #[.bool false,.slice none 0 0] 125);have b3:=ar.new2 (w.alloc (.cells #[.bool true,.slice aa l1 o_] 125)) (.cells #[.bool false,.slice ab l2 wO] 125) (.bool false) (.slice none 0 0) 125;rw [wI] at b3;have hB:=(((wK w.heap.size w).alloc (wL _) (.cells #[.bool true,.slice aa l1 o_] 125)).alloc (by rw [wI];omega) (.cells #[.bool false,.slice ab l2 wO] 125)).alloc (by rw [wI,wI];omega) (.cells #[.bool false,.slice none 0 0] 125);generalize hw3:((w.alloc (.cells #[.bool true,.slice aa l1 o_] 125)).alloc (.cells #[.bool false,.slice ab l2 wO] 125)).alloc (.cells #[.bool false,.slice none 0 0] 125)=w3 at *;have i1:=b1.c0;have i2:=b1.c1;have i3:=b2.c0;have i4:=b2.c1;go_enter Tryz.func184,Tryz.ntmps184
 go_wp2_with (go_at_call 200;(with_reducible refine (PO.out _ (AG.out _ hB) (Al.out _ hB)).mono ?_);rintro e wm ⟨rfl,xx⟩;have n1:=b1.keep xx;have n2:=b2.keep xx;have n3:=b3.keep xx;have Bn:=d_ hB xx)
 clear i1 i2 i3 i4 b1 b2 b3 xx;have e1:=n1.c0;have e2:=n1.c1;have e3:=n2.c0;have e4:=n2.c1
 go_region_held3 (fun W=>W.cell? ⟨w.heap.size,0,none⟩=some (.bool true)∧W.cell? ⟨w.heap.size,1,none⟩=some (.slice aa l1 o_)∧W.cell? ⟨w.heap.size+1,0,none⟩=some (.bool false)∧W.cell? ⟨w.heap.size+1,1,none⟩=some (.slice ab l2 wO)) (first | (refine ⟨?_,?_,?_,?_⟩ <;> (first | (with_reducible exact aE (by assumption) (by assumption)) | (with_reducible exact Gr.bJ (by assumption)) | (with_reducible refine Gr.bV (by assumption) ?_;(intro wt;(try simp only [wI,aO,World.heap_drewN,aI] at wt);omega)) | (with_reducible refine Gr.dD (by assumption) ?_ ?_ <;> (intro wt;(try simp only [wI,aO,World.heap_drewN,aI] at wt);omega)) | exact aE (by assumption) (by assumption) | (with_reducible exact bI (by assumption) (by assumption) (by assumption)))) | (go_split_ands;(refine ⟨?_,?_,?_,?_⟩ <;> (first | (with_reducible exact aE (by assumption) (by assumption)) | (with_reducible exact Gr.bJ (by assumption)) | (with_reducible refine Gr.bV (by assumption) ?_;(intro wt;(try simp only [wI,aO,World.heap_drewN,aI] at wt);omega)) | (with_reducible refine Gr.dD (by assumption) ?_ ?_ <;> (intro wt;(try simp only [wI,aO,World.heap_drewN,aI] at wt);omega)) | exact aE (by assumption) (by assumption) | (with_reducible exact bI (by assumption) (by assumption) (by assumption))))) | go_keep) ((first
  | (go_at_call 199;(with_reducible refine (PA.out _ (AG.out _ Bn.drew) (Al.out _ Bn.drew)).mono ?_);rintro e w4 ⟨v4,rfl,xF,hb4⟩;have B4:=Bn.drew.trans (hb4.mono Bn.size);have r4:=n3.drew.keep hb4;have yW:=aE hb4 (af e1);have zR:=aE hb4 (af e2);have Af:=aE hb4 (af e3);have Aw:=aE hb4 (af e4);(have z4:wm.heap.size≤w4.heap.size:=hb4.size))
  | (go_at_call 168;(with_reducible refine (PT.out _ _ _ xF).mono ?_);rintro e w5 ⟨vc,rfl,hoc,hbc⟩;obtain ⟨ac,wX,rfl,hmc,xV⟩:=aF.view hoc;have B5:=d_ B4 hbc;have r5:=r4.keep hbc;have c0:=r5.c0;have c1:=r5.c1;have g0:=r5.f0;have g1:=r5.f1;have Bg:=aE hbc yW;have Cf:=aE hbc zR;have EE:=aE hbc Af;have ES:=aE hbc Aw;clear xV hmc)
  | fail "ARMS"))
 all_goals
  have hr:=cF (w:=w) (w.heap.size+1+1) _ (.bool s) (by omega) (Nat.lt_of_lt_of_le n3.size z4) hoc B5;generalize (Wh.a_ z.natAbs).length=yE at *;go_wp2;exact bodyPost_ret (v:=.agg #[.bool s,.slice ac yE wX]) (by simp [results,Tryz.results184,go_sem, *]) rfl (⟨_,rfl,hr.1,hr.2⟩)
theorem ke (a b:Int) (va vb:Value) (w:World) (ba bb:Nat) (hoa:ak w ba va a) (xp:ak w bb vb b) (hl1:(Wh.a_ a.natAbs).length≤10000) (hl2:(Wh.a_ b.natAbs).length≤10000) :
  Calls Tryz.prog 193 #[.agg #[.bool (decide (a<0)),va],.agg #[.bool (decide (b<0)),vb]] w fun e w'=>∃ sl,e=.returned (.agg #[.bool (decide (a - b<0)),sl])∧ak w' w.heap.size sl (a - b)∧Below w.heap.size w w':=by
 obtain ⟨aa,o_,rfl,-,-⟩:=aF.view hoa;obtain ⟨ab,wO,rfl,-,-⟩:=aF.view xp
 have hnl:(Wh.a_ (-b).natAbs).length≤10000:=by rw [Int.natAbs_neg];exact hl2
 have PM:=fun W (h:aF W bb (.slice ab (Wh.a_ b.natAbs).length wO) (Wh.a_ b.natAbs))=>iJ b (.slice ab (Wh.a_ b.natAbs).length wO) W bb h (by omega)
 have PA:=fun Fl W bb' (h1:aF W ba (.slice aa (Wh.a_ a.natAbs).length o_) (Wh.a_ a.natAbs)) (h2:ak W bb' Fl (-b))=>jG a (-b) (.slice aa (Wh.a_ a.natAbs).length o_) Fl W ba bb' h1 h2 hl1 hnl
 rw [←Int.sub_eq_add_neg] at PA
 have AG:Hid (∀ W,Below w.heap.size w W→aF W ba (.slice aa (Wh.a_ a.natAbs).length o_) (Wh.a_ a.natAbs)):=wH fun W h=>aF.below hoa h
 have Al:Hid (∀ W,Below w.heap.size w W→aF W bb (.slice ab (Wh.a_ b.natAbs).length wO) (Wh.a_ b.natAbs)):=wH fun W h=>aF.below xp h
 clear hoa xp hnl;generalize Wh.a_ b.natAbs=ys,Wh.a_ a.natAbs=xs,-b=nb,a - b=z,decide (b<0)=s2,decide (a<0)=s1 at *;generalize decide (nb<0)=s3,decide (z<0)=s,ys.length=l2,xs.length=l1 at *;have PM:=wH PM;have PA:=wH PA;have n1:=((ar.new w (.bool s1) (.slice aa l1 o_) 125).alloc (.cells #[.bool s2,.slice ab l2 wO] 125)).alloc (.cells #[.bool false,.slice none 0 0] 125);have n2:=(ar.new2 w (.cells #[.bool s1,.slice aa l1 o_] 125) (.bool s2) (.slice ab l2 wO) 125).alloc (.cells #[.bool false,.slice none 0 0] 125);have n3:=ar.new2 (w.alloc (.cells #[.bool s1,.slice aa l1 o_] 125)) (.cells #[.bool s2,.slice ab l2 wO] 125) (.bool false) (.slice none 0 0) 125;rw [wI] at n3;have Bn:=(((wK w.heap.size w).alloc (wL _) (.cells #[.bool s1,.slice aa l1 o_] 125)).alloc (by rw [wI];omega) (.cells #[.bool s2,.slice ab l2 wO] 125)).alloc (by rw [wI,wI];omega) (.cells #[.bool false,.slice none 0 0] 125);generalize hw3:((w.alloc (.cells #[.bool s1,.slice aa l1 o_] 125)).alloc (.cells #[.bool s2,.slice ab l2 wO] 125)).alloc (.cells #[.bool false,.slice none 0 0] 125)=w3 at *;have e1:=n1.c0;have e2:=n1.c1;have e3:=n2.c0;have e4:=n2.c1;go_enter Tryz.func193,Tryz.ntmps193
 go_wp2
 go_region_held3 (fun W=>W.cell? ⟨w.heap.size,0,none⟩=some (.bool s1)∧W.cell? ⟨w.heap.size,1,none⟩=some (.slice aa l1 o_)∧W.cell? ⟨w.heap.size+1,0,none⟩=some (.bool s2)∧W.cell? ⟨w.heap.size+1,1,none⟩=some (.slice ab l2 wO)) (first | (refine ⟨?_,?_,?_,?_⟩ <;> (first | (with_reducible exact aE (by assumption) (by assumption)) | (with_reducible exact Gr.bJ (by assumption)) | (with_reducible refine Gr.bV (by assumption) ?_;(intro wt;(try simp only [wI,aO,World.heap_drewN,aI] at wt);omega)) | (with_reducible refine Gr.dD (by assumption) ?_ ?_ <;> (intro wt;(try simp only [wI,aO,World.heap_drewN,aI] at wt);omega)) | exact aE (by assumption) (by assumption) | (with_reducible exact bI (by assumption) (by assumption) (by assumption)))) | (go_split_ands;(refine ⟨?_,?_,?_,?_⟩ <;> (first | (with_reducible exact aE (by assumption) (by assumption)) | (with_reducible exact Gr.bJ (by assumption)) | (with_reducible refine Gr.bV (by assumption) ?_;(intro wt;(try simp only [wI,aO,World.heap_drewN,aI] at wt);omega)) | (with_reducible refine Gr.dD (by assumption) ?_ ?_ <;> (intro wt;(try simp only [wI,aO,World.heap_drewN,aI] at wt);omega)) | exact aE (by assumption) (by assumption) | (with_reducible exact bI (by assumption) (by assumption) (by assumption))))) | go_keep) ((first
  | (go_at_call 188;(with_reducible refine (PM.out _ (Al.out _ Bn.drew)).mono ?_);rintro e w4 ⟨v4,rfl,xF,hb4⟩;have B4:=Bn.drew.trans (hb4.mono Bn.size);have r4:=n3.drew.keep hb4;have yW:=aE hb4 (af e1);have zR:=aE hb4 (af e2);have Af:=aE hb4 (af e3);have Aw:=aE hb4 (af e4);(have z4:w3.heap.size≤w4.heap.size:=hb4.size))
  | (go_at_call 184;(with_reducible refine (PA.out _ _ _ (AG.out _ B4) xF).mono ?_);rintro e w5 ⟨vc,rfl,hoc,hbc⟩;obtain ⟨ac,wX,rfl,hmc,xV⟩:=aF.view hoc;have B5:=d_ B4 hbc;have r5:=r4.keep hbc;have c0:=r5.c0;have c1:=r5.c1;have g0:=r5.f0;have g1:=r5.f1;have Bg:=aE hbc yW;have Cf:=aE hbc zR;have EE:=aE hbc Af;have ES:=aE hbc Aw;clear xV hmc)
  | fail "ARMS"))
 all_goals
  have hr:=cF (w:=w) (w.heap.size+1+1) _ (.bool s) (by omega) (Nat.lt_of_lt_of_le n3.size z4) hoc B5;generalize (Wh.a_ z.natAbs).length=yE at *;go_wp2;exact bodyPost_ret (v:=.agg #[.bool s,.slice ac yE wX]) (by simp [results,Tryz.results193,go_sem, *]) rfl (⟨_,rfl,hr.1,hr.2⟩)
theorem jv (a n:Int) (va:Value) (w:World) (ba:Nat) (hoa:ak w ba va a) (hl1:(Wh.a_ a.natAbs).length≤10000) (hn1:-1000000000000000000≤n) (hn2:n≤1000000000000000000) :
  Calls Tryz.prog 143 #[.agg #[.bool (decide (a<0)),va],.int .i64 n] w fun e w'=>∃ sl,e=.returned (.agg #[.bool (decide (a*n<0)),sl])∧ak w' w.heap.size sl (a*n)∧Below w.heap.size w w':=by
 obtain ⟨aa,o_,rfl,-,-⟩:=aF.view hoa;have hnl:(Wh.a_ n.natAbs).length≤10000:=Nat.le_trans (Wh.dJ (k:=5) (by omega)) (by decide)
 have PM:=fun W=>bj n W hn1 hn2
 have PA:=fun Fl W bb' (h1:aF W ba (.slice aa (Wh.a_ a.natAbs).length o_) (Wh.a_ a.natAbs)) (h2:ak W bb' Fl n)=>ci a n (.slice aa (Wh.a_ a.natAbs).length o_) Fl W ba bb' h1 h2 hl1 hnl
 have AG:Hid (∀ W,Below w.heap.size w W→aF W ba (.slice aa (Wh.a_ a.natAbs).length o_) (Wh.a_ a.natAbs)):=wH fun W h=>aF.below hoa h
 clear hoa hnl hn1 hn2;generalize Wh.a_ a.natAbs=xs,a*n=z,decide (a<0)=s1 at *;generalize decide (n<0)=s3,decide (z<0)=s,xs.length=l1 at *;have PM:=wH PM;have PA:=wH PA;have n1:=(ar.new w (.bool s1) (.slice aa l1 o_) 125).alloc (.cells #[.bool false,.slice none 0 0] 125);have n3:=ar.new2 w (.cells #[.bool s1,.slice aa l1 o_] 125) (.bool false) (.slice none 0 0) 125;have Bn:=((wK w.heap.size w).alloc (wL _) (.cells #[.bool s1,.slice aa l1 o_] 125)).alloc (by rw [wI];omega) (.cells #[.bool false,.slice none 0 0] 125);generalize hw3:(w.alloc (.cells #[.bool s1,.slice aa l1 o_] 125)).alloc (.cells #[.bool false,.slice none 0 0] 125)=w3 at *;have e1:=n1.c0;have e2:=n1.c1;go_enter Tryz.func143,Tryz.ntmps143
 go_wp2
 go_region_held3 (fun W=>W.cell? ⟨w.heap.size,0,none⟩=some (.bool s1)∧W.cell? ⟨w.heap.size,1,none⟩=some (.slice aa l1 o_)) (first | (refine ⟨?_,?_⟩ <;> (first | (with_reducible exact aE (by assumption) (by assumption)) | (with_reducible exact Gr.bJ (by assumption)) | (with_reducible refine Gr.bV (by assumption) ?_;(intro wt;(try simp only [wI,aO,World.heap_drewN,aI] at wt);omega)) | (with_reducible refine Gr.dD (by assumption) ?_ ?_ <;> (intro wt;(try simp only [wI,aO,World.heap_drewN,aI] at wt);omega)) | exact aE (by assumption) (by assumption) | (with_reducible exact bI (by assumption) (by assumption) (by assumption)))) | (go_split_ands;(refine ⟨?_,?_⟩ <;> (first | (with_reducible exact aE (by assumption) (by assumption)) | (with_reducible exact Gr.bJ (by assumption)) | (with_reducible refine Gr.bV (by assumption) ?_;(intro wt;(try simp only [wI,aO,World.heap_drewN,aI] at wt);omega)) | (with_reducible refine Gr.dD (by assumption) ?_ ?_ <;> (intro wt;(try simp only [wI,aO,World.heap_drewN,aI] at wt);omega)) | exact aE (by assumption) (by assumption) | (with_reducible exact bI (by assumption) (by assumption) (by assumption))))) | go_keep) ((first
  | (go_at_call 139;(with_reducible refine (PM.out _).mono ?_);rintro e w4 ⟨v4,rfl,xF,hb4⟩;have B4:=Bn.drew.trans (hb4.mono Bn.size);have r4:=n3.drew.keep hb4;have yW:=aE hb4 (af e1);have zR:=aE hb4 (af e2);(have z4:w3.heap.size≤w4.heap.size:=hb4.size))
  | (go_at_call 138;(with_reducible refine (PA.out _ _ _ (AG.out _ B4) xF).mono ?_);rintro e w5 ⟨vc,rfl,hoc,hbc⟩;obtain ⟨ac,wX,rfl,hmc,xV⟩:=aF.view hoc;have B5:=d_ B4 hbc;have r5:=r4.keep hbc;have c0:=r5.c0;have c1:=r5.c1;have g0:=r5.f0;have g1:=r5.f1;have Bg:=aE hbc yW;have Cf:=aE hbc zR;clear xV hmc)
  | fail "ARMS"))
 all_goals
  have hr:=cF (w:=w) (w.heap.size+1) _ (.bool s) (by omega) (Nat.lt_of_lt_of_le n3.size z4) hoc B5;generalize (Wh.a_ z.natAbs).length=yE at *;go_wp2;exact bodyPost_ret (v:=.agg #[.bool s,.slice ac yE wX]) (by simp [results,Tryz.results143,go_sem, *]) rfl (⟨_,rfl,hr.1,hr.2⟩)
namespace Wh
theorem pS:∀ (l:List Int) (j:Nat) (t y:Int),l[j]?=some t→val (l.set j y)=val l+10000 ^ j*(y - t)
 | [],j,t,y,h=>by simp at h
 | x :: l,0,t,y,h=>by
  obtain rfl:x=t:=by simpa using h
  show y+10000*val l=x+10000*val l+10000 ^ 0*(y - x)
  rw [Int.pow_zero];omega
 | x :: l,j+1,t,y,h=>by
  have h':l[j]?=some t:=by simpa using h
  show x+10000*val (l.set j y)=x+10000*val l+10000 ^ (j+1)*(y - t)
  rw [pS l j t y h',Int.pow_succ]
  grind
structure gV (a b o:List Int) (x:Int) (i k:Nat):Prop where
 len:o.length=a.length+b.length
 eq:val o=val (a.take i)*val b+10000 ^ i*(x*val (b.take k))
 bd:∀ (j:Nat) (t:Int),o[j]?=some t→0≤t∧t≤(if j<i+k then (i:Int)+1 else i)*99980001
theorem gV.step {a b o:List Int} {x y t:Int} {i k:Nat} (h:gV a b o x i k) (hx:lim x) (hb:bQ b) (hy:b[k]?=some y) (ht:o[i+k]?=some t):(0≤t∧t≤(i:Int)*99980001)∧gV a b (o.set (i+k) (t+x*y)) x i (k+1):=by
 have hm:=lE hx (hb y (List.mem_of_getElem? hy));have hb0:=h.bd _ _ ht;rw [if_neg (Nat.lt_irrefl _)] at hb0;refine ⟨hb0,⟨by rw [List.length_set,h.len],?_,?_⟩⟩
 ·rw [pS o _ _ _ ht,h.eq,b7 hy,Int.pow_add]
  grind
 intro j t' hj
 by_cases hjk:j=i+k
 ·subst hjk
  have hlt:=(List.getElem?_eq_some_iff.1 ht).1;rw [List.getElem?_set_self hlt] at hj;obtain rfl:=Option.some.inj hj;rw [if_pos (by omega)];omega
 rw [List.getElem?_set_ne (by omega)] at hj;have:=h.bd j t' hj
 by_cases hlt:j<i+k
 ·rw [if_pos hlt] at this;rw [if_pos (by omega)];exact this
 rw [if_neg hlt] at this;rw [if_neg (by omega)];exact this
theorem gV.row {a b o:List Int} {x:Int} {i:Nat} (h:gV a b o x i b.length) (hx:a[i]?=some x) (z:Int):gV a b o z (i+1) 0:=by
 refine ⟨h.len,?_,?_⟩
 ·rw [h.eq,List.take_length,b7 hx]
  simp [val]
  grind
 intro j t hj;have:=h.bd j t hj
 have hi:((i+1:Nat):Int)=(i:Int)+1:=by omega
 rw [hi]
 by_cases h1:j<i+1+0
 ·rw [if_pos h1]
  split at this <;> omega
 rw [if_neg h1]
 split at this <;> omega
theorem gV.start (a b:List Int) (x:Int):gV a b (List.replicate (a.length+b.length) 0) x 0 0:=by
 refine ⟨List.length_replicate,by rw [sa];simp [val],?_⟩;intro j t hj;rw [List.getElem?_replicate] at hj
 split at hj
 ·obtain rfl:=Option.some.inj hj
  split <;> simp
 cases hj
structure jR (o0 o:List Int) (i:Nat) (c:Int):Prop where
 len:o.length=o0.length
 eq:val (o.take i)+10000 ^ i*c=val (o0.take i)
 rest:o.drop i=o0.drop i
 ls:bQ (o.take i)
 c0:0≤c∧c≤1000000000
theorem jR.start (o:List Int):jR o o 0 0 where
 len:=rfl
 eq:=by simp
 rest:=rfl
 ls:=fun x hx=>by simp at hx
 c0:=by omega
theorem jR.ui {o0 o:List Int} {i:Nat} {c:Int} (h:jR o0 o i c):o[i]?=o0[i]?:=by
 have:=congrArg (fun l:List Int=>l[0]?) h.rest
 simpa [List.getElem?_drop] using this
theorem jR.step {o0 o:List Int} {i:Nat} {c t:Int} (h:jR o0 o i c) (ht:o0[i]?=some t) (hb:0≤t∧t≤1000000000000):jR o0 (o.set i ((t+c) % 10000)) (i+1) ((t+c) / 10000):=by
 have hk:=(List.getElem?_eq_some_iff.1 ht).1;have hc:=h.c0
 have htk:(o.set i ((t+c) % 10000)).take i=o.take i:=by
  rw [List.take_set,List.set_eq_of_length_le (by rw [List.length_take];omega)]
 have hsk:(o.set i ((t+c) % 10000))[i]?=some ((t+c) % 10000):=List.getElem?_set_self (by rw [h.len];exact hk);refine ⟨by rw [List.length_set,h.len],?_,?_,?_,by omega⟩
 ·rw [b7 hsk,htk,b7 ht,Int.pow_succ]
  have e:=h.eq;have hd:=Int.mul_ediv_add_emod (t+c) 10000;generalize (t+c) % 10000=r,(t+c) / 10000=q at *;generalize (10000:Int) ^ i=P at *;generalize val (o0.take i)=v2,val (o.take i)=v1 at *
  grind
 ·rw [List.drop_set_of_lt (Nat.lt_succ_self i)]
  have:=congrArg (List.drop 1) h.rest
  rwa [List.drop_drop,List.drop_drop] at this
 rw [List.take_add_one,hsk,htk]
 refine cQ h.ls fun z hz=>?_
 simp only [Option.toList_some,List.mem_singleton] at hz;subst hz;unfold lim;omega
theorem jR.fin {o0 o:List Int} {n:Nat} {c v:Int} (h:jR o0 o n c) (hn:o0.length=n) (hv:val o0=v) (hlt:v<10000 ^ n):val o=v∧bQ o:=by
 have e:=h.eq;have hl:=h.ls;have l1:=h.len;rw [List.take_of_length_le (by omega),List.take_of_length_le (by omega),hv] at e;rw [List.take_of_length_le (by omega)] at hl;have o1:=cs hl;have hp:=pow_pos n;have hc:=h.c0;refine ⟨?_,hl⟩
 by_cases h0:c=0
 ·subst h0;rw [Int.mul_zero] at e;omega
 have:=Int.mul_le_mul_of_nonneg_left (show 1≤c by omega) (Int.le_of_lt hp);omega
end Wh
theorem Wh.gV.chg {a b o:List Int} {x:Int} {i:Nat} (h:gV a b o x i 0) (z:Int):gV a b o z i 0:=
 ⟨h.len,by rw [h.eq];simp [val],h.bd⟩
theorem dg (a b:Int) (va vb:Value) (w:World) (ba bb:Nat) (hoa:ak w ba va a) (xp:ak w bb vb b) (hl1:(Wh.a_ a.natAbs).length≤10000) (hl2:(Wh.a_ b.natAbs).length≤10000) :
  Calls Tryz.prog 185 #[.agg #[.bool (decide (a<0)),va],.agg #[.bool (decide (b<0)),vb]] w fun e w'=>∃ sl,e=.returned (.agg #[.bool (decide (a*b<0)),sl])∧ak w' w.heap.size sl (a*b)∧Below w.heap.size w w':=by
 obtain ⟨aa,o_,rfl,hma,hva⟩:=aF.seen hoa;obtain ⟨ab,wO,rfl,hmb,hvb⟩:=aF.seen xp;have hva:=wH hva;have hvb:=wH hvb;have hla:=wH (Wh.bD a.natAbs);have hlb:=wH (Wh.bD b.natAbs)
 have PT:=fun W v base ho=>fv (a*b) ((a.natAbs:Int)*(b.natAbs:Int)) ((Wh.a_ a.natAbs).length+(Wh.a_ b.natAbs).length+1) (decide (a<0) != decide (b<0)) v W base ho (by omega) (Wh.ov a b)
 have hpr:Hid (∀ (x y:List Int),x=Wh.a_ a.natAbs→y=Wh.a_ b.natAbs→Wh.val x*Wh.val y=(a.natAbs:Int)*(b.natAbs:Int)):=wH fun x y h1 h2=>by rw [h1,h2,Wh.bR,Wh.bR]
 have hpr:=wH (hpr.out _ _ rfl rfl);generalize decide (b<0)=s2,decide (a<0)=s1 at *;generalize (a.natAbs:Int)*(b.natAbs:Int)=y at *;generalize a*b=z at *;generalize Wh.a_ b.natAbs=ys,Wh.a_ a.natAbs=xs,decide (z<0)=s at *;clear hma hmb hoa xp;have b1:=((ar.new w (.bool s1) (.slice aa xs.length o_) 125).alloc (.cells #[.bool s2,.slice ab ys.length wO] 125)).alloc (.cells #[.bool false,.slice none 0 0] 125);have b2:=(ar.new2 w (.cells #[.bool s1,.slice aa xs.length o_] 125) (.bool s2) (.slice ab ys.length wO) 125).alloc (.cells #[.bool false,.slice none 0 0] 125);have b3:=ar.new2 (w.alloc (.cells #[.bool s1,.slice aa xs.length o_] 125)) (.cells #[.bool s2,.slice ab ys.length wO] 125) (.bool false) (.slice none 0 0) 125;rw [wI] at b3;have hB:=(((wK w.heap.size w).alloc (wL _) (.cells #[.bool s1,.slice aa xs.length o_] 125)).alloc (by rw [wI];omega) (.cells #[.bool s2,.slice ab ys.length wO] 125)).alloc (by rw [wI,wI];omega) (.cells #[.bool false,.slice none 0 0] 125);generalize hw3:((w.alloc (.cells #[.bool s1,.slice aa xs.length o_] 125)).alloc (.cells #[.bool s2,.slice ab ys.length wO] 125)).alloc (.cells #[.bool false,.slice none 0 0] 125)=w3 at *;obtain ⟨w4,hrun,hown1,hg1⟩:=kQ w3 (xs.length+ys.length) (by omega);rw [show ((xs.length+ys.length:Nat):Int)=(xs.length:Int)+(ys.length:Int) by omega] at hrun;have hb4:Below w3.heap.size w3 w4:=cP hg1 (wL _) (fun k hk=>by cases hk);have hB3:=wH hB;have e2:=b1.c1;have e4:=b2.c1;have k2:=b1.keep hb4;have k4:=b2.keep hb4;have f2:=k2.c1;have f4:=k4.c1;clear hg1;go_enter Tryz.func185,Tryz.ntmps185
 go_wp2;have Bv:=wH b1;have Bw:=wH b2;have Fu:=wH b3;clear e2 e4 k2 k4 f2 f4 b1 b2 b3 hB
 go_loopw [6,7,8,9,24] (fun _ _ _ _ vi wr=>∃ (i:Nat) (o:List Int),i≤xs.length∧vi=.int .i64 i∧aF wr w3.heap.size (.slice (some ⟨w3.heap.size,0,none⟩) (xs.length+ys.length) (xs.length+ys.length)) o∧Wh.gV xs ys o 0 i 0∧Below w3.heap.size w3 wr) (fun _ _ _ _ vi _=>xs.length - (intOf vi).toNat)
 case atStart=>exact ⟨0,List.replicate (xs.length+ys.length) 0,Nat.zero_le _,rfl,hown1,Wh.gV.start xs ys 0,hb4⟩
 case round=>
 clear hown1 hb4;obtain ⟨i,o,hi,rfl,hown,hsi,hbr⟩:=hrel;have c1:=Bv.out.dP hbr Bv.out.size;have c2:=Bw.out.dP hbr Bw.out.size;have c3:=Fu.out.dP hbr Fu.out.size;have hwr:Below w.heap.size w wr:=hB3.out.trans (hbr.mono hB3.out.size)
 by_cases hlt:i<xs.length
 ·obtain ⟨ga,x,ea,hga,hxa,hca⟩:=hva.out i hlt
  subst ea;have Bz:=aE hwr hca;have hlx:=wH (hla.out x (List.mem_of_getElem? hxa.out));have hsx:=hsi.chg x;have d2:=c1.c1;have d4:=c2.c1;clear hca c1 c2 c3 hwr hsi;go_wp2
  go_loopw [8,9,32] (fun _ _ vk wq=>∃ (k:Nat) (p:List Int),k≤ys.length∧vk=.int .i64 k∧aF wq w3.heap.size (.slice (some ⟨w3.heap.size,0,none⟩) (xs.length+ys.length) (xs.length+ys.length)) p∧Wh.gV xs ys p x i k∧Below w3.heap.size w3 wq) (fun _ _ vk _=>ys.length - (intOf vk).toNat)
  case atStart=>exact ⟨0,o,Nat.zero_le _,rfl,hown,hsx,hbr⟩
  case round=>
  clear hown hbr Bz d2 d4 hsx;obtain ⟨k,p,hk,rfl,hown,hsi,hbq⟩:=hrel;have hwq:Below w.heap.size w wr:=hB3.out.trans (hbq.mono hB3.out.size)
  by_cases hkt:k<ys.length
  ·obtain ⟨gb,yb,eb,hgb,hxb,hcb⟩:=hvb.out k hkt
   subst eb;have hcb:=aE hwq hcb;have hpl:=hsi.len
   obtain ⟨t,ht⟩:∃ t,p[i+k]?=some t:=⟨_,List.getElem?_eq_getElem (by omega)⟩
   have hS:=hsi.step hlx.out hlb.out hxb.out ht;have hm:=Wh.lE hlx.out (hlb.out yb (List.mem_of_getElem? hxb.out));have hc0:=aF.cellAt hpl.symm hown ht;have hf0:wr.frozen? ⟨w3.heap.size,i+k,none⟩=false:=es hpl hown (i+k);have hO:=wH (aF.set (j:=i+k) hpl.symm hown (t+x*yb) rfl);have htb:=hS.1;have hS2:=wH hS.2;have xY:=wH hbq;have Jg:w3.heap.size<wr.heap.size:=World.block_lt_of_cell? wr _ hc0;clear hS hsi hpl ht hown hxb;generalize hpb:x*yb=pb at *;go_wp2
   go_roundw
   case rel=>exact ⟨k+1,_,by omega,by go_num,hO.out.1,hS2.out,xY.out.setCell (wL _) _⟩
   case measure=>simp [intOf];omega
  obtain rfl:k=ys.length:=by omega
  have hrow:=wH (hsi.row hxa.out 0);have hown:=wH hown;clear hsi;go_wp2
  go_roundw
  case rel=>exact ⟨i+1,p,by omega,by go_num,hown.out,hrow.out,hbq⟩
  case measure=>simp [intOf];omega
 obtain rfl:i=xs.length:=by omega
 have Gg:Hid (Wh.val o=y):=wH (by rw [hsi.eq,List.take_length,←hpr.out];simp [Wh.val]);have hyb:Hid (y<10000 ^ (xs.length+ys.length)):=wH (by rw [←hpr.out];exact Wh.pG hla.out hlb.out (wL _))
 have hbd:Hid (∀ (j:Nat) (t:Int),o[j]?=some t→0≤t∧t≤1000000000000):=wH fun j t hj=>by
  have:=hsi.bd j t hj
  split at this <;> omega
 have hol:=wH hsi.len;have d1:=c1.c0;have d3:=c2.c0;clear hsi;go_wp2;clear d1 d3 c1 c2 c3 hwr
 go_loopw [10,11,12,52] (fun vc _ _ vi wq=>∃ (j:Nat) (p:List Int) (c:Int),j≤(xs.length+ys.length)∧vi=.int .i64 j∧vc=.int .i64 c∧aF wq w3.heap.size (.slice (some ⟨w3.heap.size,0,none⟩) (xs.length+ys.length) (xs.length+ys.length)) p∧Wh.jR o p j c∧Below w3.heap.size w3 wq) (fun _ _ _ vi _=>(xs.length+ys.length) - (intOf vi).toNat)
 case atStart=>exact ⟨0,o,0,Nat.zero_le _,rfl,rfl,hown,Wh.jR.start o,hbr⟩
 case round=>
 clear hown hbr;obtain ⟨j,p,c,hj,rfl,rfl,hown,hki,hbq⟩:=hrel
 by_cases hjt:j<(xs.length+ys.length)
 ·obtain ⟨t,ht⟩:∃ t,o[j]?=some t:=⟨_,List.getElem?_eq_getElem (by rw [hol.out];exact hjt)⟩
  have hpl:=hki.len.trans hol.out;have hpk:=hki.ui.trans ht;have hc0:=aF.cellAt hpl.symm hown hpk;have hf0:wr.frozen? ⟨w3.heap.size,j,none⟩=false:=es hpl hown j;have htb:=hbd.out _ _ ht;have hcr:=hki.c0;have hS2:=wH (hki.step ht htb);have hO:=wH (aF.set (j:=j) hpl.symm hown ((t+c) % 10000) rfl);have t1:Int.tmod (t+c) 10000=(t+c) % 10000:=Int.tmod_eq_emod_of_nonneg (by omega);have t2:Int.tdiv (t+c) 10000=(t+c) / 10000:=Int.tdiv_eq_ediv_of_nonneg (by omega)
  have hrr:0≤(t+c) % 10000∧(t+c) % 10000<10000:=by omega
  have hqq:0≤(t+c) / 10000∧(t+c) / 10000≤1000000000:=by omega
  have xY:=wH hbq;have Jg:w3.heap.size<wr.heap.size:=World.block_lt_of_cell? wr _ hc0;clear hki hpl hpk ht hown;generalize (t+c) / 10000=qq,(t+c) % 10000=r at *;go_wp2
  go_roundw
  case rel=>exact ⟨j+1,_,_,by omega,by go_num,by go_num,hO.out.1,hS2.out,xY.out.setCell (wL _) _⟩
  case measure=>simp [intOf];omega
 have e:j=(xs.length+ys.length):=by omega
 subst e;have hf:=hki.fin hol.out Gg.out hyb.out;have hpl:=hki.len.trans hol.out;have hov:Hid (jS wr w3.heap.size (.slice (some ⟨w3.heap.size,0,none⟩) (xs.length+ys.length) (xs.length+ys.length)) y (xs.length+ys.length+1)):=wH ⟨p,hown,hf.2,hf.1,by rw [hpl];omega⟩;have c1:=Bv.out.dP hbq Bv.out.size;have c2:=Bw.out.dP hbq Bw.out.size;have c3:=Fu.out.dP hbq Fu.out.size;have hwr:Below w.heap.size w wr:=hB3.out.trans (hbq.mono hB3.out.size);have d1:=c1.c0;have d3:=c2.c0;clear hki hown hf hpl;rw [show (s1 != s2)=!(s1 == s2) from rfl] at PT;have PT:=wH PT
 go_wp2_with (go_at_call 168;(with_reducible refine (PT.out _ _ _ hov.out).mono ?_);rintro e w5 ⟨vc,rfl,hoc,hbc⟩;obtain ⟨ac,wX,rfl,hmc,xV⟩:=aF.view hoc;have r5:=c3.keep hbc;have p0:=r5.c0;have p1:=r5.c1;have g0:=r5.f0;have g1:=r5.f1;clear xV hmc)
 have hr:=cF (w:=w) (w.heap.size+1+1) _ (.bool s) (by omega) c3.size hoc (d_ hwr hbc);generalize (Wh.a_ z.natAbs).length=yE at *;exact bodyPost_ret (v:=.agg #[.bool s,.slice ac yE wX]) (by simp [results,Tryz.results185,go_sem, *]) rfl (⟨_,rfl,hr.1,hr.2⟩)
end
end Go.Proofs.YtggekfbfechonaaGreat
