/-
  Joined texts: contracts and plain lemmas.
-/
import Derived.Test.YtgfkcoablfjbcaaGreatV1
import Derived.Test.YtgfkcoablfjbcaaGreatV3
import Derived.Test.YtgfkcoablfjbcaaGreatShB
import Derived.Lib.BitFns
import Derived.Orders
import Derived.Deep.DeepCutAuto
import Derived.WalkKit
set_option linter.unusedSimpArgs false
set_option linter.unusedVariables false
set_option maxRecDepth 100000
set_option maxHeartbeats 8000000
namespace Go.Proofs.YtgfkcoablfjbcaaGreat
section
open Go.RowKit
namespace Wh
def bl (n:Nat):Nat:=if n=0 then 0 else Nat.log2 n+1
theorem ul:bl 0=0:=rfl
theorem mC {n:Nat} (h:n≠0):bl n=bl (n / 2)+1:=by
 unfold bl;rw [if_neg h,Nat.log2_def]
 by_cases h2:2≤n
 ·rw [if_pos h2,if_neg (by omega)]
 rw [if_neg h2,if_pos (by omega)]
theorem ju:∀ (k n:Nat),2 ^ k≤n→bl n=bl (n / 2 ^ k)+k
 | 0,n,_=>by simp
 | k+1,n,h=>by
  have hp:0<2 ^ k:=Nat.pow_pos (by decide)
  have h1:2 ^ k≤n / 2:=by
   rw [Nat.pow_succ] at h;exact (Nat.le_div_iff_mul_le (by decide)).2 h
  rw [mC (n:=n) (by rw [Nat.pow_succ] at h;omega),ju k (n / 2) h1,Nat.div_div_eq_div_mul,Nat.pow_succ,Nat.mul_comm 2];omega
theorem si (n:Nat) (h:n<18446744073709551616):Lib.bitLen n=bl n:=by
 induction n using Nat.strongRecOn with
 | ind n ih=>
 by_cases h0:n=0
 ·subst h0;rfl
 rw [Lib.bitLen_half n h0 h,mC h0,ih (n / 2) (by omega) (by omega)];omega
theorem ol {l:List Int} (h:bP l) (k:Nat):val (l.drop k)≤val l:=by
 have e:=fY (l.take k) (l.drop k);rw [List.take_append_drop] at e;have h1:=dB (fH h k);have h2:=dB (iV h k);have h3:=Int.mul_le_mul_of_nonneg_right (show (1:Int)≤10000 ^ (l.take k).length by have:=pow_pos (l.take k).length;omega) h2;omega
theorem qD {n k:Nat} (h:k<(d_ n).length):10000 ^ k≤n:=by
 by_cases h':n<10000 ^ k
 ·have:=dQ h';omega
 omega
theorem iP {n k:Nat} (h:(d_ n).length≤k):(n:Int)<10000 ^ k:=by
 have h1:=er (ar n);rw [bQ] at h1;have:=ie h;omega
end Wh
theorem aF.past {w:World} {base c:Nat} {sl:Value} {xs:List Int} (h:aF w base sl xs) (hc:c<base) (u v:Value):aF ((w.setCell ⟨c,0,none⟩ u).setCell ⟨c,1,none⟩ v) base sl xs:=by
 refine World.ownsRow.kept h (cS w c u v) ?_
 cases hs:sl.ownBlock with
 | none=>exact Or.inl rfl
 | some g=>
 right
 intro e
 injection e with e
 have:=(aF.lt h g hs).1;omega
theorem iu (a:Int) (sl:Value) (w:World) (base:Nat) (ho:ag w base sl a) (hl:(Wh.d_ a.natAbs).length≤1000000) :
  Calls Tryz.prog 171 #[.agg #[.bool (decide (a<0)),sl]] w fun e w'=>∃ sl',e=.returned (.agg #[.bool false,sl'])∧aF w' w.heap.size sl' (Wh.d_ a.natAbs)∧Below w.heap.size w w':=by
 refine (pD a sl w base ho hl).mono fun e w' ⟨sl',h1,h2,h3⟩=>⟨sl',?_,?_,h3⟩
 ·rw [h1,decide_eq_false (show ¬ ((a.natAbs:Int)<0) by omega)]
 unfold ag at h2
 rwa [Int.natAbs_natCast] at h2
theorem ix (m n:Nat) (va:Value) (w:World) (ba:Nat) (hoa:aF w ba va (Wh.d_ m)) (hl:(Wh.d_ m).length≤9000) (hn1:1≤n) (hn2:n≤1000000000000) :
  Calls Tryz.prog 168 #[.agg #[.bool false,va],.int .i64 (n:Int)] w fun e w'=>∃ sl,e=.returned (.tuple #[.agg #[.bool false,sl],.int .i64 ((m % n:Nat):Int)])∧aF w' w.heap.size sl (Wh.d_ (m / n))∧Below w.heap.size w w':=by
 have h:=gX (m:Int) (n:Int) va w ba (by unfold ag;rwa [Int.natAbs_natCast]) (by rwa [Int.natAbs_natCast]) (by omega) (by omega);rw [decide_eq_false (show ¬ ((m:Int)<0) by omega)] at h
 refine h.mono fun e w' ⟨sl',h1,h2,h3⟩=>⟨sl',?_,?_,h3⟩
 ·rw [h1,decide_eq_false (show ¬ ((m:Int) / (n:Int)<0) by have:=Int.ediv_nonneg (a:=(m:Int)) (b:=(n:Int)) (by omega) (by omega);omega),←Int.natCast_emod]
 unfold ag at h2
 rwa [←Int.natCast_ediv,Int.natAbs_natCast] at h2
theorem nI (a:Int) (va:Value) (w:World) (ba:Nat) (hoa:ag w ba va a) (hl:(Wh.d_ a.natAbs).length≤9000) (hbl:Wh.bl a.natAbs≤1000000) :
  Calls Tryz.prog 150 #[.agg #[.bool (decide (a<0)),va]] w fun e w'=>e=.returned (.int .i64 (Wh.bl a.natAbs:Nat))∧Below w.heap.size w w':=by
 obtain ⟨aa,p_,rfl,-,-⟩:=aF.view hoa
 have PA:=fun W (h:aF W ba (.slice aa (Wh.d_ a.natAbs).length p_) (Wh.d_ a.natAbs))=>iu a (.slice aa (Wh.d_ a.natAbs).length p_) W ba h (by omega)
 have PD:=fun (m:Nat) (hm:(Wh.d_ m).length≤9000) va W b (h:aF W b va (Wh.d_ m))=>ix m 67108864 va W b h hm (by omega) (by omega)
 rw [show ((67108864:Nat):Int)=67108864 from rfl] at PD;replace PD:=yJ PD;generalize decide (a<0)=s1 at *;replace hoa:=yJ (show aF _ _ _ _ from hoa);generalize a.natAbs=N at *;have b1:=ai.new w (.bool s1) (.slice aa (Wh.d_ N).length p_) 136;have hB:=(yM w.heap.size w).alloc (yN _) (.cells #[.bool s1,.slice aa (Wh.d_ N).length p_] 136);have ho1:=aF.alloc hoa.out (.cells #[.bool s1,.slice aa (Wh.d_ N).length p_] 136);generalize hw3:w.alloc (.cells #[.bool s1,.slice aa (Wh.d_ N).length p_] 136)=w3 at *;replace PA:=yJ PA;have e1:=b1.c0;have e2:=b1.c1;have hz3:=b1.size;go_enter Tryz.func150,Tryz.ntmps150
 go_wp2_with (go_at_call 171;(with_reducible refine (PA.out _ ho1).mono ?_);rintro e w4 ⟨v4,rfl,yk,hb4⟩;obtain ⟨a4,cap4,rfl,HA,hv4⟩:=aF.view yk;have r4:=b1.keep hb4;have c0:=r4.c0;have c1:=r4.c1;have g0:=r4.f0;have g1:=r4.f1;clear hv4 HA)
 have rs:=r4.store (.bool false) (.slice a4 (Wh.d_ N).length cap4);have os:=aF.past (aF.base (base':=w.heap.size+1) yk (by omega)) (Nat.lt_succ_self _) (.bool false) (.slice a4 (Wh.d_ N).length cap4);have Bs:=((i_ hB hb4).setCell (p:=⟨w.heap.size,0,none⟩) (yN _) (.bool false)).setCell (p:=⟨w.heap.size,1,none⟩) (yN _) (.slice a4 (Wh.d_ N).length cap4);clear r4 c0 c1 g0 g1 e1 e2 yk hb4 b1 hB ho1
 go_loopw [3] (fun vb wr=>∃ (m c:Nat) (ax:Option Addr) (cx:Nat),vb=.int .i64 c∧c+Wh.bl m=Wh.bl N∧(Wh.d_ m).length≤(Wh.d_ N).length∧Hid (ai wr w.heap.size (.bool false) (.slice ax (Wh.d_ m).length cx))∧aF wr (w.heap.size+1) (.slice ax (Wh.d_ m).length cx) (Wh.d_ m)∧Below w.heap.size w wr) (fun vb _=>Wh.bl N - (intOf vb).toNat)
 case atStart=>exact ⟨N,0,a4,cap4,rfl,Nat.zero_add _,yN _,yJ rs,os,Bs⟩
 case round=>
 clear rs os Bs;obtain ⟨m,c,ax,cx,rfl,hc,hml,zi,hown,hbr⟩:=hrel;have c0:=zi.out.c0;have c1:=zi.out.c1;have EO:=zi.out.size
 by_cases h2:2<(Wh.d_ m).length
 ·have hbig:=Wh.qD h2
  have hsh:=Wh.ju 26 m (by omega);rw [show 2 ^ 26=67108864 from rfl] at hsh;have Ml:=Wh.d7 (Nat.div_le_self m 67108864);have PX:=PD.out m (by omega);have PX:=yJ PX;generalize m % 67108864=rr,m / 67108864=m2 at *;have hown:=yJ hown;clear hbig;generalize hlm:(Wh.d_ m).length=lm at *
  go_wp2_with (go_at_call 168;(with_reducible refine (PX.out _ _ _ hown.out).mono ?_);rintro e w5 ⟨v5,rfl,yV,hb5⟩;obtain ⟨a5,cap5,rfl,Ev,hv5⟩:=aF.view yV;have r5:=zi.out.keep hb5;have d0:=r5.c0;have d1:=r5.c1;have g0:=r5.f0;have g1:=r5.f1;clear hv5 Ev)
  go_roundw
  case rel=>exact ⟨m2,c+26,a5,cap5,by go_num,by omega,by omega,yJ (r5.store _ _),aF.past (aF.base yV (by omega)) (Nat.lt_succ_self _) _ _,((i_ hbr hb5).setCell (yN _) _).setCell (yN _) _⟩
  case measure=>simp [intOf];omega
 have hsm:=Wh.iP (n:=m) (k:=2) (by omega)
 have IF:(m:Int)≤99999999:=by
  have:(10000:Int) ^ 2=100000000:=by decide
  omega
 have hld:=yJ (Wh.ar m);have hvd:=yJ (Wh.bQ m)
 have PB:=fun W=>Tryz.bits_Len (m:Int) W (by omega) (by omega)
 rw [Int.toNat_natCast,Wh.si m (by omega)] at PB;have hc2:=yJ hc
 have zf:Wh.bl m≤Wh.bl N:=by omega
 obtain ⟨ad,capd,ed,hmd,hvs⟩:=aF.seen hown
 injection ed with e1 e2 e3
 subst e1 e3;replace hvs:=yJ hvs;clear hsm hml hown PD hc hmd e2
 have hb0:Hid (m=0→Wh.bl m=0):=yJ fun h=>by rw [h];rfl
 generalize Wh.d_ m=ds,Wh.bl m=bm at *;replace PB:=yJ PB
 have hln:ds.length≤2:=by omega
 clear h2;go_wp2
 go_loopw [4,5] (fun vn vi wq=>∃ (k:Nat),k≤ds.length∧vi=.int .i64 ((k:Int) - 1)∧vn=.int .i64 (Wh.val (ds.drop k))∧Below wr.heap.size wr wq) (fun _ vi _=>(intOf vi+1).toNat)
 case atStart=>exact ⟨ds.length,yN _,rfl,by rw [List.drop_length];rfl,yM _ _⟩
 case round=>
 obtain ⟨k,hk,rfl,rfl,hbq⟩:=hrel;have f1:=aE hbq c1;have hdn:=Wh.dB (Wh.iV hld.out k);have hdl:=Wh.ol hld.out k;rw [hvd.out] at hdl
 cases k with
 | zero=>
  have hv0:Wh.val (ds.drop 0)=m:=by rw [List.drop_zero];exact hvd.out
  rw [hv0];clear hv0 hdn hdl
  by_cases hm0:m=0
  ·have hcn:Hid (Wh.bl N=c):=yJ (by have:=hc2.out;have:=hb0.out hm0;omega)
   subst hm0;go_wp2;go_ret;exact ⟨by rw [hcn.out] <;> rfl,i_ hbr hbq⟩
  have hcn:Hid (((Wh.bl N:Nat):Int)=(c:Int)+bm):=yJ (by have:=hc2.out;omega)
  have hcb:c≤1000000:=by have:=hc2.out;omega
  have hm1:0<(m:Int):=by omega
  go_wp2_with (go_at_call 152;(refine (PB.out _).mono ?_);rintro e w6 ⟨rfl,rfl⟩)
  go_ret;exact ⟨by rw [hcn.out] <;> rfl,i_ hbr hbq⟩
 | succ j=>
 obtain ⟨gx,x,ex,hgx,Jc,hcx⟩:=hvs.out j (by omega);subst ex;have hcx:=aE hbq hcx;have hvj:=Wh.kh Jc.out;have hlx:=hld.out x (List.mem_of_getElem? Jc.out);unfold Wh.lim at hlx;have NN:=yJ (show Wh.val (ds.drop j)=Wh.val (ds.drop (j+1))*10000+x by rw [hvj];omega)
 have hbv:Wh.val (ds.drop (j+1))≤100000000:=by omega
 clear hvj Jc hdl;generalize Wh.val (ds.drop (j+1))=v1 at *;go_wp2
 go_roundw
 case rel=>exact ⟨j,by omega,by go_num,by rw [NN.out],hbq⟩
 case measure=>first | (simp [intOf];done) | (simp [intOf];omega)
theorem qp (N:Nat) (v:Value) (w:World) (base:Nat) (hown:aF w base v (Wh.d_ N)) (hl:(Wh.d_ N).length≤1000000) :
  Calls Tryz.prog 163 #[.bool false,v] w fun e w'=>∃ sl,e=.returned (.agg #[.bool false,sl])∧aF w' w.heap.size sl (Wh.d_ N)∧Below w.heap.size w w':=by
 have h:=gF (N:Int) false (Wh.d_ N) v w base hown (Wh.ar N) hl (by rw [Wh.bQ];rfl)
 refine h.mono fun e w' ⟨sl',h1,h2,h3⟩=>⟨sl',?_,?_,h3⟩
 ·rw [h1,decide_eq_false (show ¬ ((N:Int)<0) by omega)]
 unfold ag at h2
 rwa [Int.natAbs_natCast] at h2
theorem qv (m n:Nat) (va:Value) (w:World) (ba:Nat) (hoa:aF w ba va (Wh.d_ m)) (hl:(Wh.d_ m).length≤9000) (hn1:1≤n) (hn2:n≤1000000000000) :
  Calls Tryz.prog 161 #[.agg #[.bool false,va],.int .i64 (n:Int)] w fun e w'=>∃ sl,e=.returned (.tuple #[.agg #[.bool false,sl],.int .i64 ((m % n:Nat):Int)])∧aF w' w.heap.size sl (Wh.d_ (m / n))∧Below w.heap.size w w':=by
 have h:=eK (m:Int) (n:Int) va w ba (by unfold ag;rwa [Int.natAbs_natCast]) (by rwa [Int.natAbs_natCast]) (by omega) (by omega);rw [decide_eq_false (show ¬ ((m:Int)<0) by omega)] at h
 refine h.mono fun e w' ⟨sl',h1,h2,h3⟩=>⟨sl',?_,?_,h3⟩
 ·rw [h1,decide_eq_false (show ¬ ((m:Int) / (n:Int)<0) by have:=Int.ediv_nonneg (a:=(m:Int)) (b:=(n:Int)) (by omega) (by omega);omega),←Int.natCast_emod]
 unfold ag at h2
 rwa [←Int.natCast_ediv,Int.natAbs_natCast] at h2
theorem Wh.t8 {m:Nat} (h:(d_ m).length≤1):nth (d_ m) 0=m:=by
 have hv:=bQ m
 cases hd:d_ m with
 | nil=>rw [hd] at hv;rw [←hv];rfl
 | cons x l=>
 rw [hd] at h hv
 cases l with
 | nil=>rw [←hv];show x=x+10000*0;omega
 | cons y t=>simp at h
theorem jp (a:Int) (va:Value) (w:World) (ba:Nat) (hoa:ag w ba va a) (hl:(Wh.d_ a.natAbs).length≤9000) (hbl:Wh.bl a.natAbs≤1000000) :
  Calls Tryz.prog 145 #[.agg #[.bool (decide (a<0)),va]] w fun e w'=>e=.returned (.int .i64 (Wh.bl a.natAbs:Nat))∧Below w.heap.size w w':=by
 obtain ⟨aa,p_,rfl,-,-⟩:=aF.view hoa
 have PA:=fun W (h:aF W ba (.slice aa (Wh.d_ a.natAbs).length p_) (Wh.d_ a.natAbs))=>qp a.natAbs (.slice aa (Wh.d_ a.natAbs).length p_) W ba h (by omega)
 have PD:=fun (m:Nat) (hm:(Wh.d_ m).length≤9000) va W b (h:aF W b va (Wh.d_ m))=>qv m 4096 va W b h hm (by omega) (by omega)
 rw [show ((4096:Nat):Int)=4096 from rfl] at PD;replace PD:=yJ PD
 have PL:=fun (m:Nat) va W b (h:aF W b va (Wh.d_ m))=>ft (Wh.d_ m) va 0 W b h
 rw [show ((0:Nat):Int)=0 from rfl] at PL;replace PL:=yJ PL;generalize decide (a<0)=s1 at *;replace hoa:=yJ (show aF _ _ _ _ from hoa);generalize a.natAbs=N at *;have b1:=ai.new w (.bool s1) (.slice aa (Wh.d_ N).length p_) 136;have hB:=(yM w.heap.size w).alloc (yN _) (.cells #[.bool s1,.slice aa (Wh.d_ N).length p_] 136);have ho1:=aF.alloc hoa.out (.cells #[.bool s1,.slice aa (Wh.d_ N).length p_] 136);generalize hw3:w.alloc (.cells #[.bool s1,.slice aa (Wh.d_ N).length p_] 136)=w3 at *;replace PA:=yJ PA;have e2:=b1.c1;have hz3:=b1.size;go_enter Tryz.func145,Tryz.ntmps145
 go_wp2_with (go_at_call 163;(with_reducible refine (PA.out _ ho1).mono ?_);rintro e w4 ⟨v4,rfl,yk,hb4⟩;obtain ⟨a4,cap4,rfl,HA,hv4⟩:=aF.view yk;clear hv4 HA)
 have rs:=ai.new w4 (.bool false) (.slice a4 (Wh.d_ N).length cap4) 136;have os:=aF.alloc yk (.cells #[.bool false,.slice a4 (Wh.d_ N).length cap4] 136);have B4:=i_ hB hb4;have Bs:=B4.alloc B4.size (.cells #[.bool false,.slice a4 (Wh.d_ N).length cap4] 136);have Au:=B4.size;have II:=yJ yk;have hz34:=hb4.size;clear e2 yk hb4 b1 hB ho1 B4
 have ne:(Value.slice a4 (Wh.d_ N).length cap4).ownBlock≠some w4.heap.size:=fun e=>by
  have:=(aF.lt II.out _ e).2;omega
 clear II
 go_loopw [3] (fun vb wr=>∃ (m c:Nat) (ax:Option Addr) (cx:Nat),vb=.int .i64 c∧c+Wh.bl m=Wh.bl N∧(Wh.d_ m).length≤(Wh.d_ N).length∧Hid (ai wr w4.heap.size (.bool false) (.slice ax (Wh.d_ m).length cx))∧Hid ((Value.slice ax (Wh.d_ m).length cx).ownBlock≠some w4.heap.size)∧aF wr w3.heap.size (.slice ax (Wh.d_ m).length cx) (Wh.d_ m)∧Below w.heap.size w wr) (fun vb _=>Wh.bl N - (intOf vb).toNat)
 case atStart=>exact ⟨N,0,a4,cap4,rfl,Nat.zero_add _,yN _,yJ rs,yJ ne,os,Bs⟩
 case round=>
 clear rs os Bs ne;obtain ⟨m,c,ax,cx,rfl,hc,hml,zi,hne,hown,hbr⟩:=hrel;have c0:=zi.out.c0;have c1:=zi.out.c1;have EO:=zi.out.size
 by_cases h2:1<(Wh.d_ m).length
 ·have hbig:=Wh.qD h2
  have hsh:=Wh.ju 12 m (by omega);rw [show 2 ^ 12=4096 from rfl] at hsh;have Ml:=Wh.d7 (Nat.div_le_self m 4096);have PX:=PD.out m (by omega);replace PX:=yJ PX;generalize m % 4096=rr,m / 4096=m2 at *;replace hown:=yJ hown;clear hbig;generalize hlm:(Wh.d_ m).length=lm at *
  go_wp2_with (go_at_call 161;(with_reducible refine (PX.out _ _ _ hown.out).mono ?_);rintro e w5 ⟨v5,rfl,yV,hb5⟩;obtain ⟨a5,cap5,rfl,Ev,hv5⟩:=aF.view yV;have r5:=zi.out.keep hb5;have d0:=r5.c0;have d1:=r5.c1;have g0:=r5.f0;have g1:=r5.f1;clear hv5 Ev)
  have ne5:(Value.slice a5 (Wh.d_ m2).length cap5).ownBlock≠some w4.heap.size:=fun e=>by
   have:=(aF.lt yV _ e).1;omega
  have hkp:=fun u v=>World.ownsRow.kept (aF.base (base':=w3.heap.size) yV (by omega)) (cS w5 w4.heap.size u v) (Or.inr ne5)
  go_roundw
  case rel=>exact ⟨m2,c+12,a5,cap5,by go_num,by omega,by omega,yJ (r5.store _ _),yJ ne5,hkp _ _,((i_ hbr hb5).setCell (by omega) _).setCell (by omega) _⟩
  case measure=>simp [intOf];omega
 have hsm:=Wh.iP (n:=m) (k:=1) (by omega)
 have IF:(m:Int)≤9999:=by
  have:(10000:Int) ^ 1=10000:=by decide
  omega
 have PX:=PL.out m;rw [Wh.t8 (by omega)] at PX;replace PX:=yJ PX;have hc2:=yJ hc;replace hown:=yJ hown
 have hcb:c≤Wh.bl N:=by omega
 clear hsm hml PD hc
 go_wp2_with (go_at_call 164;(with_reducible refine (PX.out _ _ _ hown.out).mono ?_);rintro e w6 ⟨rfl,rfl⟩)
 go_loopw [3,5] (fun vb vn wq=>∃ (m2 c2:Nat),vb=.int .i64 c2∧vn=.int .i64 m2∧c2+Wh.bl m2=Wh.bl N∧m2≤9999∧Below w.heap.size w wq) (fun _ vn _=>(intOf vn).toNat)
 case atStart=>exact ⟨m,c,rfl,rfl,hc2.out,by omega,hbr⟩
 case round=>
 obtain ⟨m2,c2,rfl,rfl,hcc,hm9,hbq⟩:=hrel
 by_cases hm0:m2=0
 ·have hcn:Hid (Wh.bl N=c2):=yJ (by rw [hm0] at hcc;have:=Wh.ul;omega)
  subst hm0;clear hcc;go_wp2;go_ret;exact ⟨by rw [hcn.out] <;> rfl,hbq⟩
 have hh:=Wh.mC hm0
 have t2:Int.tdiv (m2:Int) 2=((m2 / 2:Nat):Int):=by rw [Int.tdiv_eq_ediv_of_nonneg (by omega)];omega
 have hm1:0<(m2:Int):=by omega
 have hlt:m2 / 2<m2:=by omega
 have hcb2:c2≤Wh.bl N:=by omega
 have F9:Hid (c2+1+Wh.bl (m2 / 2)=Wh.bl N):=yJ (by omega);clear hcc hh;generalize m2 / 2=m3 at *;go_wp2
 go_roundw
 case rel=>exact ⟨m3,c2+1,by go_num,by go_num,F9.out,by omega,hbq⟩
 case measure=>simp [intOf];omega
namespace Wh
theorem oi:∀ l:List Int,(trim l).length≤l.length
 | []=>yN _
 | x :: l=>by
  have ih:=oi l
  show (match trim l with
   | []=>if x=0 then [] else [x]
   | y :: t=>x :: y :: t).length≤(x :: l).length
  split
  ·split <;> simp
  rename_i y t h
  rw [h] at ih
  simpa using ih
theorem nP {m n:Nat} (h:(d_ m).length=n+1):∃ x,(d_ m)[n]?=some x∧0<x:=by
 have hx:(d_ m)[n]?=some (d_ m)[n]:=List.getElem?_eq_getElem (by omega);refine ⟨_,hx,?_⟩;have h0:=(ar m _ (List.mem_of_getElem? hx)).1
 by_cases hz:(d_ m)[n]=0
 ·have ht:=tD m
  have hs:d_ m=(d_ m).take n ++ [0]:=by
   have:=(List.take_append_drop n (d_ m)).symm;rw [List.drop_eq_getElem_cons (by omega),hz,List.drop_eq_nil_of_le (by omega)] at this;exact this
  rw [hs,ir] at ht;have h1:=oi ((d_ m).take n);rw [ht,List.length_append,List.length_take] at h1;simp at h1
  omega
 omega
end Wh
theorem lK (z:Int) (va:Value) (w:World) (ba:Nat) (ho:ag w ba va z) (hl:(Wh.d_ z.natAbs).length≤100000) :
  Calls Tryz.prog 180 #[.agg #[.bool (decide (z<0)),va]] w fun e w'=>e=.returned (.bool (decide ((Wh.d_ z.natAbs).length≤400)))∧Below w.heap.size w w':=by
 obtain ⟨aa,p_,rfl,hma,hva⟩:=aF.seen ho;have hva:=yJ hva;have hla:=yJ (Wh.ar z.natAbs)
 have hls:=fun n h=>Wh.nP (m:=z.natAbs) (n:=n) h
 have hz0:Hid ((Wh.d_ z.natAbs).length=0→decide (z<0)=false):=yJ fun h=>by
  have:=Wh.gG.1 (List.length_eq_zero_iff.1 h);exact decide_eq_false (by omega)
 clear hma ho;generalize Wh.d_ z.natAbs=xs,decide (z<0)=s1 at *;have hls:=yJ hls;have b1:=ai.new w (.bool s1) (.slice aa xs.length p_) 136;have hB:=(yM w.heap.size w).alloc (yN _) (.cells #[.bool s1,.slice aa xs.length p_] 136)
 by_cases h4:xs.length≤400
 ·rw [decide_eq_true h4]
  generalize hw3:w.alloc (.cells #[.bool s1,.slice aa xs.length p_] 136)=w3 at *;have e1:=b1.c0;have e2:=b1.c1
  by_cases hn:xs.length=0
  ·have hs:=hz0.out hn
   subst hs;have hn1:=yJ hn;rw [hn] at e2 hw3 ⊢;clear hn hls hz0 b1 hl h4;go_enter Tryz.func180,Tryz.ntmps180
   go_wp2;clear e1 e2
   go_loopw [5,35] (fun _ vi wr=>∃ k:Nat,k≤0∧vi=.int .i64 k∧Below w3.heap.size w3 wr) (fun _ vi _=>0 - (intOf vi).toNat)
   case atStart=>exact ⟨0,Nat.zero_le _,rfl,yM _ _⟩
   case round=>
   obtain ⟨k,hk,rfl,hbr⟩:=hrel
   by_cases hlt:k<0
   ·obtain ⟨gb,y,eb,hgb,hyb,hcb⟩:=hva.out k (by rw [hn1.out];exact hlt)
    exact absurd hlt (Nat.not_lt_zero _)
   obtain rfl:k=0:=by omega
   go_wp2;go_ret;exact ⟨rfl,i_ hB hbr⟩
  obtain ⟨n,hn1⟩:∃ n,xs.length=n+1:=⟨xs.length - 1,by omega⟩
  obtain ⟨x,hx,hx0⟩:=hls.out n hn1;obtain ⟨ga,x',ea,hga,hxa,hca⟩:=hva.out n (by omega);subst ea;obtain rfl:=Option.some.inj (hx.symm.trans hxa.out);have Ds:=hB.cell (p:=⟨ga,n,none⟩) hga;have Cs:=Ds.trans hca
  have hxn:¬ x=0:=by omega
  have h4':n+1≤400:=by omega
  have hd1:decide (400<(n:Int)+1)=false:=decide_eq_false (by omega);have hd2:(x == 0)=false:=beq_eq_false_iff_ne.2 hxn;have hd3:((n:Int)+1 == 0)=false:=beq_eq_false_iff_ne.2 (by omega);rw [hn1] at e2 hw3 ⊢;replace hn1:=yJ hn1;clear hca Ds hx hn hxa hls hz0 b1 hl h4;go_enter Tryz.func180,Tryz.ntmps180
  go_wp2;clear e1 e2 Cs hxn hx0 hd1 hd2 hd3
  go_loopw [5,35] (fun _ vi wr=>∃ k:Nat,k≤n+1∧vi=.int .i64 k∧Below w3.heap.size w3 wr) (fun _ vi _=>n+1 - (intOf vi).toNat)
  case atStart=>exact ⟨0,Nat.zero_le _,rfl,yM _ _⟩
  case round=>
  obtain ⟨k,hk,rfl,hbr⟩:=hrel
  by_cases hlt:k<n+1
  ·obtain ⟨gb,y,eb,hgb,hyb,hcb⟩:=hva.out k (by rw [hn1.out];exact hlt)
   obtain rfl:ga=gb:=by simpa using eb
   have hcb:=((i_ hB hbr).cell (p:=⟨ga,k,none⟩) hgb).trans hcb;have FN:=hla.out y (List.mem_of_getElem? hyb.out)
   have PI:=fun W=>dJ y 0 9999 W
   rw [show M.ins y 0 9999=true by unfold M.ins;unfold Wh.lim at FN;simp;omega] at PI;replace PI:=yJ PI;clear hyb FN
   go_wp2_with (go_at_call 48;(with_reducible refine (PI.out _).mono ?_);rintro e w5 ⟨rfl,rfl⟩)
   go_roundw
   case rel=>exact ⟨k+1,by omega,by go_num,hbr⟩
   case measure=>simp [intOf];omega
  obtain rfl:k=n+1:=by omega
  go_wp2;go_ret;exact ⟨rfl,i_ hB hbr⟩
 rw [decide_eq_false h4];go_enter Tryz.func180,Tryz.ntmps180
 go_wp2;go_ret;exact ⟨rfl,hB⟩
theorem nt (l:List Int) (v:Value) (w:World) (base:Nat) (hown:aF w base v l) (h:Wh.bP l) (hl:l.length≤100000) :
  Calls Tryz.prog 181 #[v,.int .i64 0,.int .i64 9999] w fun e w'=>e=.returned (.bool true)∧Below w.heap.size w w':=by
 obtain ⟨a,cap,rfl,hm,hv⟩:=hown.seen;have hv:=yJ hv;have h:=yJ h;clear hm hown;go_enter Tryz.func181,Tryz.ntmps181
 go_wp2
 go_loopw [8,11] (fun _ vi wr=>∃ k:Nat,k≤l.length∧vi=.int .i64 k∧Below w.heap.size w wr) (fun _ vi _=>l.length - (intOf vi).toNat)
 case atStart=>exact ⟨0,Nat.zero_le _,rfl,yM _ _⟩
 case round=>
 obtain ⟨k,hk,rfl,hbr⟩:=hrel
 by_cases hlt:k<l.length
 ·obtain ⟨g,y,rfl,hg,hy,hcell⟩:=hv.out k hlt
  have hc:=aE hbr hcell;have FN:=h.out y (List.mem_of_getElem? hy.out)
  have PI:=fun W=>df y 0 9999 W
  rw [show M.ins y 0 9999=true by unfold M.ins;unfold Wh.lim at FN;simp;omega] at PI;replace PI:=yJ PI;clear hcell hy FN
  go_wp2_with (go_at_call 47;(with_reducible refine (PI.out _).mono ?_);rintro e w5 ⟨rfl,rfl⟩)
  go_roundw
  case rel=>exact ⟨k+1,by omega,by go_num,hbr⟩
  case measure=>simp [intOf];omega
 obtain rfl:k=l.length:=by omega
 go_wp2;go_ret;exact ⟨rfl,hbr⟩
theorem nH (z:Int) (va:Value) (w:World) (ba:Nat) (ho:ag w ba va z) (hl:(Wh.d_ z.natAbs).length≤100000) :
  Calls Tryz.prog 177 #[.agg #[.bool (decide (z<0)),va]] w fun e w'=>e=.returned (.bool (decide ((Wh.d_ z.natAbs).length≤400)))∧Below w.heap.size w w':=by
 obtain ⟨aa,p_,rfl,hma,hva⟩:=aF.seen ho;have hva:=yJ hva
 have PL:=fun W (h:aF W ba (.slice aa (Wh.d_ z.natAbs).length p_) (Wh.d_ z.natAbs))=>nt (Wh.d_ z.natAbs) (.slice aa (Wh.d_ z.natAbs).length p_) W ba h (Wh.ar _) hl
 have hoo:=yJ (show aF w ba (.slice aa (Wh.d_ z.natAbs).length p_) (Wh.d_ z.natAbs) from ho)
 have hls:=fun n h=>Wh.nP (m:=z.natAbs) (n:=n) h
 have hz0:Hid ((Wh.d_ z.natAbs).length=0→decide (z<0)=false):=yJ fun h=>by
  have:=Wh.gG.1 (List.length_eq_zero_iff.1 h);exact decide_eq_false (by omega)
 clear hma ho;generalize Wh.d_ z.natAbs=xs,decide (z<0)=s1 at *;replace PL:=yJ PL;replace hls:=yJ hls;have b1:=ai.new w (.bool s1) (.slice aa xs.length p_) 136;have hB:=(yM w.heap.size w).alloc (yN _) (.cells #[.bool s1,.slice aa xs.length p_] 136)
 by_cases h4:xs.length≤400
 ·rw [decide_eq_true h4]
  have ho3:=aF.alloc hoo.out (.cells #[.bool s1,.slice aa xs.length p_] 136);generalize hw3:w.alloc (.cells #[.bool s1,.slice aa xs.length p_] 136)=w3 at *;have PX:=PL.out w3 ho3;have e1:=b1.c0;have e2:=b1.c1;have bh:=yJ b1
  by_cases hn:xs.length=0
  ·have hs:=hz0.out hn
   subst hs;rw [hn] at e2 hw3 PX ⊢;replace PX:=yJ PX;rw [hn] at bh;clear hn hls hz0 b1 hl h4 ho3;go_enter Tryz.func177,Tryz.ntmps177
   go_wp2_with (go_at_call 181;(with_reducible refine (PX.out).mono ?_);rintro e w5 ⟨rfl,hb5⟩;have c5:=bh.out.keep hb5;have f1:=c5.c0;have f2:=c5.c1)
   go_ret;exact ⟨rfl,i_ hB hb5⟩
  obtain ⟨n,hn1⟩:∃ n,xs.length=n+1:=⟨xs.length - 1,by omega⟩
  obtain ⟨x,hx,hx0⟩:=hls.out n hn1;obtain ⟨ga,x',ea,hga,hxa,hca⟩:=hva.out n (by omega);subst ea;obtain rfl:=Option.some.inj (hx.symm.trans hxa.out);have Ds:=hB.cell (p:=⟨ga,n,none⟩) hga;have Cs:=Ds.trans hca
  have h4':n+1≤400:=by omega
  have hd1:decide ((n:Int)+1≤400)=true:=decide_eq_true (by omega);have hd3:((n:Int)+1 == 0)=false:=beq_eq_false_iff_ne.2 (by omega);have hd4:decide (0<x)=true:=decide_eq_true hx0;rw [hn1] at e2 hw3 PX bh ⊢;replace hn1:=yJ hn1;replace PX:=yJ PX;clear hca Ds hx hn hxa hls hz0 b1 hl h4 ho3;go_enter Tryz.func177,Tryz.ntmps177
  go_wp2_with (go_at_call 181;(with_reducible refine (PX.out).mono ?_);rintro e w5 ⟨rfl,hb5⟩;have c5:=bh.out.keep hb5;have f1:=c5.c0;have f2:=c5.c1;have f3:=aE hb5 Cs)
  go_ret;exact ⟨rfl,i_ hB hb5⟩
 rw [decide_eq_false h4];go_enter Tryz.func177,Tryz.ntmps177
 go_wp2;go_ret;exact ⟨rfl,hB⟩
theorem gQ (a:Int) (n:Nat) (va:Value) (w:World) (ba:Nat) (hoa:ag w ba va a) (hl:(Wh.d_ a.natAbs).length≤9000) (hn1:1≤n) (hn2:n≤1000000000000) :
  Calls Tryz.prog 179 #[.agg #[.bool (decide (a<0)),va],.int .i64 (n:Int)] w fun e w'=>e=.returned (.int .i64 (Nat.gcd (a.natAbs % n) n:Nat))∧Below w.heap.size w w':=by
 obtain ⟨aa,p_,rfl,-,-⟩:=aF.view hoa
 have PA:=fun W (h:aF W ba (.slice aa (Wh.d_ a.natAbs).length p_) (Wh.d_ a.natAbs))=>iu a (.slice aa (Wh.d_ a.natAbs).length p_) W ba h (by omega)
 have PD:=fun va W b (h:aF W b va (Wh.d_ a.natAbs))=>ix a.natAbs n va W b h hl hn1 hn2
 have hlt:a.natAbs % n<n:=Nat.mod_lt _ (by omega)
 have PG:=fun W=>kC ((a.natAbs % n:Nat):Int) (n:Int) W (by omega) (by omega) (by omega) (by omega)
 rw [show M.gcd ((a.natAbs % n:Nat):Int) (n:Int)=((Nat.gcd (a.natAbs % n) n:Nat):Int) from rfl] at PG;replace hoa:=yJ (show aF _ _ _ _ from hoa);generalize a.natAbs=N,a.natAbs / n=q,a.natAbs % n=r,Nat.gcd (a.natAbs % n) n=g,decide (a<0)=s1 at *;have b1:=ai.new w (.bool s1) (.slice aa (Wh.d_ N).length p_) 136;have hB:=(yM w.heap.size w).alloc (yN _) (.cells #[.bool s1,.slice aa (Wh.d_ N).length p_] 136);have ho1:=aF.alloc hoa.out (.cells #[.bool s1,.slice aa (Wh.d_ N).length p_] 136);generalize hw3:w.alloc (.cells #[.bool s1,.slice aa (Wh.d_ N).length p_] 136)=w3 at *;have e1:=b1.c0;have e2:=b1.c1;replace PA:=yJ PA;replace PD:=yJ PD;replace PG:=yJ PG;go_enter Tryz.func179,Tryz.ntmps179
 go_wp2_with (first
  | (go_at_call 171;(with_reducible refine (PA.out _ ho1).mono ?_);rintro e w4 ⟨v4,rfl,yk,hb4⟩)
  | (go_at_call 168;(with_reducible refine (PD.out _ _ _ yk).mono ?_);rintro e w5 ⟨v5,rfl,yV,hb5⟩;obtain ⟨a5,cap5,rfl,Ev,hv5⟩:=aF.view yV;clear hv5 Ev)
  | (go_at_call 75;(with_reducible refine (PG.out _).mono ?_);rintro e w6 ⟨rfl,m6,rfl⟩))
 go_ret;have B4:=i_ hB hb4;have B5:=i_ B4 hb5;exact ⟨rfl,aL (B5.alloc B5.size _) _⟩
structure iL (w:World) (b:Nat) (u v x y:Value):Prop where
 c0:w.cell? ⟨b,0,none⟩=some u
 c1:w.cell? ⟨b,1,none⟩=some v
 c2:w.cell? ⟨b,2,none⟩=some x
 c3:w.cell? ⟨b,3,none⟩=some y
 f0:w.frozen? ⟨b,0,none⟩=false
 f1:w.frozen? ⟨b,1,none⟩=false
 f2:w.frozen? ⟨b,2,none⟩=false
 f3:w.frozen? ⟨b,3,none⟩=false
 size:b<w.heap.size
theorem iL.keep {w w':World} {b:Nat} {u v x y:Value} (h:iL w b u v x y) (hb:Below w.heap.size w w'):iL w' b u v x y:=
 have hg:=cF hb none
 ⟨hg.cell h.c0 (by simp),hg.cell h.c1 (by simp),hg.cell h.c2 (by simp),hg.cell h.c3 (by simp),(Gr.frozen hg h.size (by simp)).trans h.f0,(Gr.frozen hg h.size (by simp)).trans h.f1,(Gr.frozen hg h.size (by simp)).trans h.f2,(Gr.frozen hg h.size (by simp)).trans h.f3,Gr.kX hg h.size⟩
theorem iL.new (w:World) (u v x y:Value) (T:TypeId):iL (w.alloc (.cells #[u,v,x,y] T)) w.heap.size u v x y:=
 ⟨by rw [World.cell?_alloc_at _ _ _ _ rfl];rfl,by rw [World.cell?_alloc_at _ _ _ _ rfl];rfl,by rw [World.cell?_alloc_at _ _ _ _ rfl];rfl,by rw [World.cell?_alloc_at _ _ _ _ rfl];rfl,by simp [go_sem],by simp [go_sem],by simp [go_sem],by simp [go_sem],by rw [yK];omega⟩
namespace Wh
def cY (x z:Int):Bool:=(decide ((d_ x.natAbs).length≤80) && M.ins (d_ z.natAbs).length 1 80) && !decide (z<0)
theorem oK {x z:Int} (h:¬ (d_ x.natAbs).length≤80):cY x z=false:=by unfold cY;rw [decide_eq_false h];rfl
theorem oL {x z:Int} (h:¬ (d_ z.natAbs).length≤80):cY x z=false:=by
 unfold cY;rw [show M.ins ((d_ z.natAbs).length:Int) 1 80=false by unfold M.ins;simp;omega];simp
end Wh
theorem lJ (x z:Int) (vx vz:Value) (w:World) (bx bz:Nat) (hox:ag w bx vx x) (zO:ag w bz vz z) (hl1:(Wh.d_ x.natAbs).length≤100000) (hl2:(Wh.d_ z.natAbs).length≤100000) :
  Calls Tryz.prog 170 #[.agg #[.bool (decide (x<0)),vx,.bool (decide (z<0)),vz]] w fun e w'=>e=.returned (.bool (Wh.cY x z))∧Below w.heap.size w w':=by
 obtain ⟨ax,cx,rfl,-,-⟩:=aF.view hox;obtain ⟨az,cz,rfl,-,-⟩:=aF.view zO
 have P1:=fun W (h:aF W bx (.slice ax (Wh.d_ x.natAbs).length cx) (Wh.d_ x.natAbs))=>lK x (.slice ax (Wh.d_ x.natAbs).length cx) W bx h hl1
 have P2:=fun W (h:aF W bz (.slice az (Wh.d_ z.natAbs).length cz) (Wh.d_ z.natAbs))=>lK z (.slice az (Wh.d_ z.natAbs).length cz) W bz h hl2
 have DG:Hid (∀ W,Below w.heap.size w W→aF W bx (.slice ax (Wh.d_ x.natAbs).length cx) (Wh.d_ x.natAbs)):=yJ fun W h=>aF.below hox h
 have Dp:Hid (∀ W,Below w.heap.size w W→aF W bz (.slice az (Wh.d_ z.natAbs).length cz) (Wh.d_ z.natAbs)):=yJ fun W h=>aF.below zO h
 have hf1:=yJ fun h=>Wh.oK (x:=x) (z:=z) h
 have hf2:=yJ fun h=>Wh.oL (x:=x) (z:=z) h
 have hrt:Hid (Wh.cY x z=((decide ((Wh.d_ x.natAbs).length≤80) && M.ins (Wh.d_ z.natAbs).length 1 80) && !decide (z<0))):=yJ rfl;clear hox zO;generalize Wh.d_ z.natAbs=zs,Wh.d_ x.natAbs=xs,decide (z<0)=s2,decide (x<0)=s1,Wh.cY x z=rt at *;generalize zs.length=lz,xs.length=lx at *;have b1:=iL.new w (.bool s1) (.slice ax lx cx) (.bool s2) (.slice az lz cz) 157;have hB:=(yM w.heap.size w).alloc (yN _) (.cells #[.bool s1,.slice ax lx cx,.bool s2,.slice az lz cz] 157);generalize hw3:w.alloc (.cells #[.bool s1,.slice ax lx cx,.bool s2,.slice az lz cz] 157)=w3 at *;have e0:=b1.c0;have e1:=b1.c1;have e2:=b1.c2;have e3:=b1.c3;have bh:=yJ b1;clear b1
 by_cases h1:lx≤400
 ·rw [decide_eq_true h1] at P1
  replace P1:=yJ P1
  by_cases h2:lz≤400
  ·rw [decide_eq_true h2] at P2
   replace P2:=yJ P2
   by_cases h3:lx≤80
   ·have hd:decide ((lx:Int)≤80)=true:=decide_eq_true (by omega)
    have PI:=fun W=>dJ (lz:Int) 1 80 W
    cases hi:M.ins (lz:Int) 1 80
    ·have hr:Hid (rt=false):=yJ (by rw [hrt.out,hi,Bool.and_false];rfl)
     rw [hi] at PI;replace PI:=yJ PI;go_enter Tryz.func170,Tryz.ntmps170
     go_wp2_with (first | (go_at_call 180;(with_reducible refine (P1.out _ (DG.out _ hB)).mono ?_);rintro e w4 ⟨rfl,hb4⟩;have r4:=bh.out.keep hb4;have g0:=r4.c0;have g1:=r4.c1;have g2:=r4.c2;have g3:=r4.c3;have B4:=i_ hB hb4) | (go_at_call 180;(with_reducible refine (P2.out _ (Dp.out _ B4)).mono ?_);rintro e w5 ⟨rfl,hb5⟩;have r5:=r4.keep hb5;have k0:=r5.c0;have k1:=r5.c1;have k2:=r5.c2;have k3:=r5.c3;have B5:=i_ B4 hb5) | (go_at_call 48;(with_reducible refine (PI.out _).mono ?_);rintro e w6 ⟨rfl,rfl⟩))
     go_ret;exact ⟨by rw [hr.out] <;> rfl,B5⟩
    have hr:Hid (rt=!s2):=yJ (by rw [hrt.out,hi,decide_eq_true h3];rfl);rw [hi] at PI;replace PI:=yJ PI;go_enter Tryz.func170,Tryz.ntmps170
    go_wp2_with (first | (go_at_call 180;(with_reducible refine (P1.out _ (DG.out _ hB)).mono ?_);rintro e w4 ⟨rfl,hb4⟩;have r4:=bh.out.keep hb4;have g0:=r4.c0;have g1:=r4.c1;have g2:=r4.c2;have g3:=r4.c3;have B4:=i_ hB hb4) | (go_at_call 180;(with_reducible refine (P2.out _ (Dp.out _ B4)).mono ?_);rintro e w5 ⟨rfl,hb5⟩;have r5:=r4.keep hb5;have k0:=r5.c0;have k1:=r5.c1;have k2:=r5.c2;have k3:=r5.c3;have B5:=i_ B4 hb5) | (go_at_call 48;(with_reducible refine (PI.out _).mono ?_);rintro e w6 ⟨rfl,rfl⟩))
    go_ret;exact ⟨by rw [hr.out] <;> rfl,B5⟩
   have hd:decide ((lx:Int)≤80)=false:=decide_eq_false (by omega);have hr:=yJ (hf1.out h3);go_enter Tryz.func170,Tryz.ntmps170
   go_wp2_with (first | (go_at_call 180;(with_reducible refine (P1.out _ (DG.out _ hB)).mono ?_);rintro e w4 ⟨rfl,hb4⟩;have r4:=bh.out.keep hb4;have g0:=r4.c0;have g1:=r4.c1;have g2:=r4.c2;have g3:=r4.c3;have B4:=i_ hB hb4) | (go_at_call 180;(with_reducible refine (P2.out _ (Dp.out _ B4)).mono ?_);rintro e w5 ⟨rfl,hb5⟩;have r5:=r4.keep hb5;have k0:=r5.c0;have k1:=r5.c1;have k2:=r5.c2;have k3:=r5.c3;have B5:=i_ B4 hb5))
   go_ret;exact ⟨by rw [hr.out] <;> rfl,B5⟩
  rw [decide_eq_false h2] at P2;replace P2:=yJ P2;have hr:=yJ (hf2.out (by omega));go_enter Tryz.func170,Tryz.ntmps170
  go_wp2_with (first | (go_at_call 180;(with_reducible refine (P1.out _ (DG.out _ hB)).mono ?_);rintro e w4 ⟨rfl,hb4⟩;have r4:=bh.out.keep hb4;have g0:=r4.c0;have g1:=r4.c1;have g2:=r4.c2;have g3:=r4.c3;have B4:=i_ hB hb4) | (go_at_call 180;(with_reducible refine (P2.out _ (Dp.out _ B4)).mono ?_);rintro e w5 ⟨rfl,hb5⟩;have r5:=r4.keep hb5;have k0:=r5.c0;have k1:=r5.c1;have k2:=r5.c2;have k3:=r5.c3;have B5:=i_ B4 hb5))
  go_ret;exact ⟨by rw [hr.out] <;> rfl,B5⟩
 rw [decide_eq_false h1] at P1;replace P1:=yJ P1;have hr:=yJ (hf1.out (by omega));go_enter Tryz.func170,Tryz.ntmps170
 go_wp2_with (first | (go_at_call 180;(with_reducible refine (P1.out _ (DG.out _ hB)).mono ?_);rintro e w4 ⟨rfl,hb4⟩;have r4:=bh.out.keep hb4;have g0:=r4.c0;have g1:=r4.c1;have g2:=r4.c2;have g3:=r4.c3;have B4:=i_ hB hb4))
 go_ret;exact ⟨by rw [hr.out] <;> rfl,B4⟩
theorem ow (x z:Int) (vx vz:Value) (w:World) (bx bz:Nat) (hox:ag w bx vx x) (zO:ag w bz vz z) (hl1:(Wh.d_ x.natAbs).length≤100000) (hl2:(Wh.d_ z.natAbs).length≤100000) :
  Calls Tryz.prog 162 #[.agg #[.bool (decide (x<0)),vx,.bool (decide (z<0)),vz]] w fun e w'=>e=.returned (.bool (Wh.cY x z))∧Below w.heap.size w w':=by
 obtain ⟨ax,cx,rfl,-,-⟩:=aF.view hox;obtain ⟨az,cz,rfl,-,-⟩:=aF.view zO
 have P1:=fun W (h:aF W bx (.slice ax (Wh.d_ x.natAbs).length cx) (Wh.d_ x.natAbs))=>nH x (.slice ax (Wh.d_ x.natAbs).length cx) W bx h hl1
 have P2:=fun W (h:aF W bz (.slice az (Wh.d_ z.natAbs).length cz) (Wh.d_ z.natAbs))=>nH z (.slice az (Wh.d_ z.natAbs).length cz) W bz h hl2
 have DG:Hid (∀ W,Below w.heap.size w W→aF W bx (.slice ax (Wh.d_ x.natAbs).length cx) (Wh.d_ x.natAbs)):=yJ fun W h=>aF.below hox h
 have Dp:Hid (∀ W,Below w.heap.size w W→aF W bz (.slice az (Wh.d_ z.natAbs).length cz) (Wh.d_ z.natAbs)):=yJ fun W h=>aF.below zO h
 have hf1:=yJ fun h=>Wh.oK (x:=x) (z:=z) h
 have hf2:=yJ fun h=>Wh.oL (x:=x) (z:=z) h
 have hrt:Hid (Wh.cY x z=((decide ((Wh.d_ x.natAbs).length≤80) && M.ins (Wh.d_ z.natAbs).length 1 80) && !decide (z<0))):=yJ rfl;clear hox zO;generalize Wh.d_ z.natAbs=zs,Wh.d_ x.natAbs=xs,decide (z<0)=s2,decide (x<0)=s1,Wh.cY x z=rt at *;generalize zs.length=lz,xs.length=lx at *;have b1:=iL.new w (.bool s1) (.slice ax lx cx) (.bool s2) (.slice az lz cz) 157;have hB:=(yM w.heap.size w).alloc (yN _) (.cells #[.bool s1,.slice ax lx cx,.bool s2,.slice az lz cz] 157);generalize hw3:w.alloc (.cells #[.bool s1,.slice ax lx cx,.bool s2,.slice az lz cz] 157)=w3 at *;have e0:=b1.c0;have e1:=b1.c1;have e2:=b1.c2;have e3:=b1.c3;have bh:=yJ b1;clear b1
 by_cases h1:lx≤400
 ·rw [decide_eq_true h1] at P1
  replace P1:=yJ P1
  by_cases h2:lz≤400
  ·rw [decide_eq_true h2] at P2
   replace P2:=yJ P2
   by_cases h3:lx≤80
   ·have hd:decide ((lx:Int)≤80)=true:=decide_eq_true (by omega)
    have PI:=fun W=>df (lz:Int) 1 80 W
    cases hi:M.ins (lz:Int) 1 80
    ·have hr:Hid (rt=false):=yJ (by rw [hrt.out,hi,Bool.and_false];rfl)
     rw [hi] at PI;replace PI:=yJ PI;go_enter Tryz.func162,Tryz.ntmps162
     go_wp2_with (first | (go_at_call 177;(with_reducible refine (P1.out _ (DG.out _ hB)).mono ?_);rintro e w4 ⟨rfl,hb4⟩;have r4:=bh.out.keep hb4;have g0:=r4.c0;have g1:=r4.c1;have g2:=r4.c2;have g3:=r4.c3;have B4:=i_ hB hb4) | (go_at_call 177;(with_reducible refine (P2.out _ (Dp.out _ B4)).mono ?_);rintro e w5 ⟨rfl,hb5⟩;have r5:=r4.keep hb5;have k0:=r5.c0;have k1:=r5.c1;have k2:=r5.c2;have k3:=r5.c3;have B5:=i_ B4 hb5) | (go_at_call 47;(with_reducible refine (PI.out _).mono ?_);rintro e w6 ⟨rfl,rfl⟩))
     go_ret;exact ⟨by rw [hr.out] <;> rfl,B5⟩
    have hr:Hid (rt=!s2):=yJ (by rw [hrt.out,hi,decide_eq_true h3];rfl);rw [hi] at PI;replace PI:=yJ PI;go_enter Tryz.func162,Tryz.ntmps162
    go_wp2_with (first | (go_at_call 177;(with_reducible refine (P1.out _ (DG.out _ hB)).mono ?_);rintro e w4 ⟨rfl,hb4⟩;have r4:=bh.out.keep hb4;have g0:=r4.c0;have g1:=r4.c1;have g2:=r4.c2;have g3:=r4.c3;have B4:=i_ hB hb4) | (go_at_call 177;(with_reducible refine (P2.out _ (Dp.out _ B4)).mono ?_);rintro e w5 ⟨rfl,hb5⟩;have r5:=r4.keep hb5;have k0:=r5.c0;have k1:=r5.c1;have k2:=r5.c2;have k3:=r5.c3;have B5:=i_ B4 hb5) | (go_at_call 47;(with_reducible refine (PI.out _).mono ?_);rintro e w6 ⟨rfl,rfl⟩))
    go_ret;exact ⟨by rw [hr.out] <;> rfl,B5⟩
   have hd:decide ((lx:Int)≤80)=false:=decide_eq_false (by omega);have hr:=yJ (hf1.out h3);go_enter Tryz.func162,Tryz.ntmps162
   go_wp2_with (first | (go_at_call 177;(with_reducible refine (P1.out _ (DG.out _ hB)).mono ?_);rintro e w4 ⟨rfl,hb4⟩;have r4:=bh.out.keep hb4;have g0:=r4.c0;have g1:=r4.c1;have g2:=r4.c2;have g3:=r4.c3;have B4:=i_ hB hb4) | (go_at_call 177;(with_reducible refine (P2.out _ (Dp.out _ B4)).mono ?_);rintro e w5 ⟨rfl,hb5⟩;have r5:=r4.keep hb5;have k0:=r5.c0;have k1:=r5.c1;have k2:=r5.c2;have k3:=r5.c3;have B5:=i_ B4 hb5))
   go_ret;exact ⟨by rw [hr.out] <;> rfl,B5⟩
  rw [decide_eq_false h2] at P2;replace P2:=yJ P2;have hr:=yJ (hf2.out (by omega));go_enter Tryz.func162,Tryz.ntmps162
  go_wp2_with (first | (go_at_call 177;(with_reducible refine (P1.out _ (DG.out _ hB)).mono ?_);rintro e w4 ⟨rfl,hb4⟩;have r4:=bh.out.keep hb4;have g0:=r4.c0;have g1:=r4.c1;have g2:=r4.c2;have g3:=r4.c3;have B4:=i_ hB hb4) | (go_at_call 177;(with_reducible refine (P2.out _ (Dp.out _ B4)).mono ?_);rintro e w5 ⟨rfl,hb5⟩;have r5:=r4.keep hb5;have k0:=r5.c0;have k1:=r5.c1;have k2:=r5.c2;have k3:=r5.c3;have B5:=i_ B4 hb5))
  go_ret;exact ⟨by rw [hr.out] <;> rfl,B5⟩
 rw [decide_eq_false h1] at P1;replace P1:=yJ P1;have hr:=yJ (hf1.out (by omega));go_enter Tryz.func162,Tryz.ntmps162
 go_wp2_with (first | (go_at_call 177;(with_reducible refine (P1.out _ (DG.out _ hB)).mono ?_);rintro e w4 ⟨rfl,hb4⟩;have r4:=bh.out.keep hb4;have g0:=r4.c0;have g1:=r4.c1;have g2:=r4.c2;have g3:=r4.c3;have B4:=i_ hB hb4))
 go_ret;exact ⟨by rw [hr.out] <;> rfl,B4⟩
def b6 (w:World) (g:Nat) (zs:List Int):Prop:=
 ∀ (k:Nat) (z:Int),zs[k]?=some z→∃ (a:Option Addr) (cap:Nat),w.cell? ⟨g,k*2,none⟩=some (.bool (decide (z<0)))∧w.cell? ⟨g,k*2+1,none⟩=some (.slice a (Wh.d_ z.natAbs).length cap)∧aF w 0 (.slice a (Wh.d_ z.natAbs).length cap) (Wh.d_ z.natAbs)
theorem b6.below {w w':World} {g:Nat} {zs:List Int} (h:b6 w g zs) (hb:Below w.heap.size w w'):b6 w' g zs:=fun k z hz=>by
 obtain ⟨a,cap,h1,h2,h3⟩:=h k z hz;exact ⟨a,cap,aE hb h1,aE hb h2,aF.below h3 hb⟩
def Wh.small (z:Int):Prop:=(d_ z.natAbs).length≤9000
theorem i7 (zs:List Int) (g cap:Nat) (w:World) (hw:b6 w g zs) (hl:zs.length≤100) (hs1:∀ z ∈ zs,Wh.small z) (hs2:∀ k,Wh.small ((zs.take k).foldl (·+·) 0)) :
  Calls Tryz.prog 165 #[.slice (some ⟨g,0,none⟩) zs.length cap] w fun e w'=>∃ sl,e=.returned (.agg #[.bool (decide (zs.foldl (·+·) 0<0)),sl])∧ag w' w.heap.size sl (zs.foldl (·+·) 0)∧Below w.heap.size w w':=by
 obtain ⟨T,hT⟩:∃ T,Hid (zs.foldl (·+·) 0=T):=⟨_,yJ rfl⟩
 rw [hT.out]
 obtain ⟨sT,CP⟩:∃ s,Hid (decide (T<0)=s):=⟨_,yJ rfl⟩
 rw [CP.out];have hw:=yJ hw;have hs1:=yJ hs1;have hs2:=yJ hs2;have b3:=(ai.new w (.bool false) (.slice none 0 0) 136).alloc (.cells #[.bool false,.slice none 0 0] 136);have b4:=ai.new2 w (.cells #[.bool false,.slice none 0 0] 136) (.bool false) (.slice none 0 0) 136;have hB:=((yM w.heap.size w).alloc (yN _) (.cells #[.bool false,.slice none 0 0] 136)).alloc (by rw [yK];omega) (.cells #[.bool false,.slice none 0 0] 136);generalize hw3:(w.alloc (.cells #[.bool false,.slice none 0 0] 136)).alloc (.cells #[.bool false,.slice none 0 0] 136)=w3 at *;have e0:=b4.c0;have e1:=b4.c1;have e2:=b4.f0;have e3:=b4.f1;go_enter Tryz.func165,Tryz.ntmps165
 go_wp2;have q4:=b4.store (.bool false) (.slice none 0 0);have q3:=b3.other (c:=w.heap.size+1) (by omega) (.bool false) (.slice none 0 0);have qB:=(hB.setCell (p:=⟨w.heap.size+1,0,none⟩) (Nat.le_succ _) (.bool false)).setCell (p:=⟨w.heap.size+1,1,none⟩) (Nat.le_succ _) (.slice none 0 0);clear e0 e1 e2 e3
 go_loopw [9] (fun vi wr=>∃ (k:Nat) (a:Option Addr) (cx:Nat),k≤zs.length∧vi=.int .i64 k∧Hid (ai wr (w.heap.size+1) (.bool (decide ((zs.take k).foldl (·+·) 0<0))) (.slice a (Wh.d_ ((zs.take k).foldl (·+·) 0).natAbs).length cx))∧Hid (ai wr w.heap.size (.bool false) (.slice none 0 0))∧aF wr (w.heap.size+2) (.slice a (Wh.d_ ((zs.take k).foldl (·+·) 0).natAbs).length cx) (Wh.d_ ((zs.take k).foldl (·+·) 0).natAbs)∧Below w.heap.size w wr) (fun vi _=>zs.length - (intOf vi).toNat)
 case atStart=>exact ⟨0,none,0,Nat.zero_le _,rfl,by simpa [Wh.cj] using yJ q4,yJ q3,by simpa [Wh.cj] using aF.nil _ _,qB⟩
 case round=>
 clear b3 b4 hB q3 q4 qB;obtain ⟨k,a,cx,hk,rfl,zi,CY,hown,hbr⟩:=hrel;have c0:=zi.out.c0;have c1:=zi.out.c1;have f0:=zi.out.f0;have f1:=zi.out.f1;have z0:=zi.out.size
 by_cases hlt:k<zs.length
 ·obtain ⟨z,hz⟩:∃ z,zs[k]?=some z:=⟨_,List.getElem?_eq_getElem hlt⟩
  obtain ⟨az,cz,d0,d1,d2⟩:=(hw.out.below hbr) k z hz;have hA:=hs2.out k;have hA2:=hs2.out (k+1);have hzs:=hs1.out z (List.mem_of_getElem? hz)
  have hnx:(zs.take (k+1)).foldl (·+·) 0=(zs.take k).foldl (·+·) 0+z:=by rw [List.take_add_one,hz,List.foldl_append];rfl
  rw [hnx] at hA2;have hnx:=yJ hnx;have g0:=CY.out.size;clear hz;generalize (zs.take k).foldl (·+·) 0=A at *;unfold Wh.small at hA hA2 hzs
  have PA:=fun W b1 b2 (h1:aF W b1 (.slice a (Wh.d_ A.natAbs).length cx) (Wh.d_ A.natAbs)) (h2:aF W b2 (.slice az (Wh.d_ z.natAbs).length cz) (Wh.d_ z.natAbs))=>fp A z (.slice a (Wh.d_ A.natAbs).length cx) (.slice az (Wh.d_ z.natAbs).length cz) W b1 b2 h1 h2 (by omega) (by omega)
  generalize A+z=B,decide (z<0)=sz,decide (A<0)=sA at *;generalize hsB:decide (B<0)=sB at *;generalize Wh.d_ z.natAbs=ys,Wh.d_ A.natAbs=xs at *;generalize ys.length=l2,xs.length=l1 at *;replace PA:=yJ PA;have ho2:=aF.alloc hown (.cells #[.bool sz,.slice az l2 cz] 136);have hz2:=aF.alloc d2 (.cells #[.bool sz,.slice az l2 cz] 136)
  have bA:=(zi.out.alloc (.cells #[.bool sz,.slice az l2 cz] 136))
  have bZ:=(CY.out.alloc (.cells #[.bool sz,.slice az l2 cz] 136))
  have hB2:=hbr.alloc hbr.size (.cells #[.bool sz,.slice az l2 cz] 136);have hza:(wr.alloc (.cells #[.bool sz,.slice az l2 cz] 136)).heap.size=wr.heap.size+1:=yK _ _;clear d2 hown
  go_wp2_with (go_at_call 114;(with_reducible refine (PA.out _ _ _ ho2 hz2).mono ?_);rintro e w5 ⟨v5,rfl,yV,hb5⟩;obtain ⟨a5,cap5,rfl,Ev,hv5⟩:=aF.view yV;have r5:=bA.keep hb5;have k0:=r5.c0;have k1:=r5.c1;have k2:=r5.f0;have k3:=r5.f1;have t5:=bZ.keep hb5;clear hv5 Ev)
  have zV:=aF.past (aF.base (base':=w.heap.size+2) yV (by omega)) (Nat.lt_succ_self (w.heap.size+1)) (.bool sB) (.slice a5 (Wh.d_ B.natAbs).length cap5);have MH:=((i_ hB2 hb5).setCell (p:=⟨w.heap.size+1,0,none⟩) (Nat.le_succ _) (.bool sB)).setCell (p:=⟨w.heap.size+1,1,none⟩) (Nat.le_succ _) (.slice a5 (Wh.d_ B.natAbs).length cap5);have q4:=r5.store (.bool sB) (.slice a5 (Wh.d_ B.natAbs).length cap5);have q3:=t5.other (c:=w.heap.size+1) (by omega) (.bool sB) (.slice a5 (Wh.d_ B.natAbs).length cap5)
  go_roundw
  case rel=>exact ⟨k+1,a5,cap5,by omega,by go_num,by rw [hnx.out,hsB];exact yJ q4,yJ q3,by rw [hnx.out];exact zV,MH⟩
  case measure=>simp [intOf];omega
 obtain rfl:k=zs.length:=by omega
 rw [List.take_length] at *;have g0:=CY.out.c0;have g1:=CY.out.c1;have g2:=CY.out.f0;have g3:=CY.out.f1;have hr:=cK (w:=w) w.heap.size _ (.bool sT) (yN _) (by omega) hown hbr;rw [hT.out] at hr c0 c1;rw [CP.out] at c0;generalize (Wh.d_ T.natAbs).length=zh at *;clear hw hs1 hs2 hown zi;go_wp2;exact bodyPost_ret (v:=.agg #[.bool sT,.slice a zh cx]) (by simp [results,Tryz.results165,go_sem, *]) rfl (⟨_,rfl,hr.1,hr.2⟩)
theorem bc (zs:List Int) (g cap:Nat) (w:World) (hw:b6 w g zs) (hl:zs.length≤100) (hs1:∀ z ∈ zs,Wh.small z) (hs2:∀ k,Wh.small ((zs.take k).foldl (·*·) 1)) :
  Calls Tryz.prog 166 #[.slice (some ⟨g,0,none⟩) zs.length cap] w fun e w'=>∃ sl,e=.returned (.agg #[.bool (decide (zs.foldl (·*·) 1<0)),sl])∧ag w' w.heap.size sl (zs.foldl (·*·) 1)∧Below w.heap.size w w':=by
 obtain ⟨T,hT⟩:∃ T,Hid (zs.foldl (·*·) 1=T):=⟨_,yJ rfl⟩
 rw [hT.out]
 obtain ⟨sT,CP⟩:∃ s,Hid (decide (T<0)=s):=⟨_,yJ rfl⟩
 rw [CP.out];replace hw:=yJ hw;replace hs1:=yJ hs1;replace hs2:=yJ hs2;have b3:=ai.new w (.bool false) (.slice none 0 0) 136;have hB:=(yM w.heap.size w).alloc (yN _) (.cells #[.bool false,.slice none 0 0] 136);generalize hw3:w.alloc (.cells #[.bool false,.slice none 0 0] 136)=w3 at *
 have PW:=fun W=>bj 1 W (by omega) (by omega)
 rw [decide_eq_false (show ¬ (1:Int)<0 by decide)] at PW;replace PW:=yJ PW;have hz3:=b3.size;go_enter Tryz.func166,Tryz.ntmps166
 go_wp2_with (go_at_call 113;(with_reducible refine (PW.out _).mono ?_);rintro e w5 ⟨v5,rfl,yV,hb5⟩;obtain ⟨a5,cap5,rfl,Ev,hv5⟩:=aF.view yV;clear hv5 Ev)
 have q4:=ai.new w5 (.bool false) (.slice a5 (Wh.d_ (1:Int).natAbs).length cap5) 136;have q3:=(b3.keep hb5).alloc (.cells #[.bool false,.slice a5 (Wh.d_ (1:Int).natAbs).length cap5] 136);have B5:=i_ hB hb5;have qB:=B5.alloc B5.size (.cells #[.bool false,.slice a5 (Wh.d_ (1:Int).natAbs).length cap5] 136);have qo:=aF.base (base':=w.heap.size+1) (aF.alloc yV (.cells #[.bool false,.slice a5 (Wh.d_ (1:Int).natAbs).length cap5] 136)) (by omega)
 have ne:(Value.slice a5 (Wh.d_ (1:Int).natAbs).length cap5).ownBlock≠some w5.heap.size:=fun e=>by
  have:=(aF.lt yV _ e).2;omega
 have hzc:w.heap.size<w5.heap.size:=by have:=hb5.size;omega
 generalize hC:w5.heap.size=C at q4 ne hzc ⊢;clear yV b3 hb5 B5
 go_loopw [9] (fun vi wr=>∃ (k:Nat) (a:Option Addr) (cx:Nat),k≤zs.length∧vi=.int .i64 k∧Hid (ai wr C (.bool (decide ((zs.take k).foldl (·*·) 1<0))) (.slice a (Wh.d_ ((zs.take k).foldl (·*·) 1).natAbs).length cx))∧Hid (ai wr w.heap.size (.bool false) (.slice none 0 0))∧aF wr (w.heap.size+1) (.slice a (Wh.d_ ((zs.take k).foldl (·*·) 1).natAbs).length cx) (Wh.d_ ((zs.take k).foldl (·*·) 1).natAbs)∧Hid ((Value.slice a (Wh.d_ ((zs.take k).foldl (·*·) 1).natAbs).length cx).ownBlock≠some C)∧Below w.heap.size w wr) (fun vi _=>zs.length - (intOf vi).toNat)
 case atStart=>exact ⟨0,a5,cap5,Nat.zero_le _,rfl,yJ q4,yJ q3,qo,yJ ne,qB⟩
 case round=>
 clear hB q3 q4 qB qo ne;obtain ⟨k,a,cx,hk,rfl,zi,CY,hown,hne,hbr⟩:=hrel;have c0:=zi.out.c0;have c1:=zi.out.c1;have f0:=zi.out.f0;have f1:=zi.out.f1;have z0:=zi.out.size
 by_cases hlt:k<zs.length
 ·obtain ⟨z,hz⟩:∃ z,zs[k]?=some z:=⟨_,List.getElem?_eq_getElem hlt⟩
  obtain ⟨az,cz,d0,d1,d2⟩:=(hw.out.below hbr) k z hz;have hA:=hs2.out k;have hA2:=hs2.out (k+1);have hzs:=hs1.out z (List.mem_of_getElem? hz)
  have hnx:(zs.take (k+1)).foldl (·*·) 1=(zs.take k).foldl (·*·) 1*z:=by rw [List.take_add_one,hz,List.foldl_append];rfl
  rw [hnx] at hA2;have hnx:=yJ hnx;have g0:=CY.out.size;clear hz;generalize (zs.take k).foldl (·*·) 1=A at *;unfold Wh.small at hA hA2 hzs
  have PA:=fun W b1 b2 (h1:aF W b1 (.slice a (Wh.d_ A.natAbs).length cx) (Wh.d_ A.natAbs)) (h2:aF W b2 (.slice az (Wh.d_ z.natAbs).length cz) (Wh.d_ z.natAbs))=>cn A z (.slice a (Wh.d_ A.natAbs).length cx) (.slice az (Wh.d_ z.natAbs).length cz) W b1 b2 h1 h2 (by omega) (by omega)
  generalize A*z=B,decide (z<0)=sz,decide (A<0)=sA at *;generalize hsB:decide (B<0)=sB at *;generalize Wh.d_ z.natAbs=ys,Wh.d_ A.natAbs=xs at *;generalize ys.length=l2,xs.length=l1 at *;replace PA:=yJ PA;have ho2:=aF.alloc hown (.cells #[.bool sz,.slice az l2 cz] 136);have hz2:=aF.alloc d2 (.cells #[.bool sz,.slice az l2 cz] 136)
  have bA:=(zi.out.alloc (.cells #[.bool sz,.slice az l2 cz] 136))
  have bZ:=(CY.out.alloc (.cells #[.bool sz,.slice az l2 cz] 136))
  have hB2:=hbr.alloc hbr.size (.cells #[.bool sz,.slice az l2 cz] 136);have hza:(wr.alloc (.cells #[.bool sz,.slice az l2 cz] 136)).heap.size=wr.heap.size+1:=yK _ _;clear d2 hown
  go_wp2_with (go_at_call 112;(with_reducible refine (PA.out _ _ _ ho2 hz2).mono ?_);rintro e w6 ⟨v6,rfl,FO,hb6⟩;obtain ⟨a6,cap6,rfl,Mk,hv6⟩:=aF.view FO;have r5:=bA.keep hb6;have k0:=r5.c0;have k1:=r5.c1;have k2:=r5.f0;have k3:=r5.f1;have t5:=bZ.keep hb6;clear hv6 Mk)
  have ne6:(Value.slice a6 (Wh.d_ B.natAbs).length cap6).ownBlock≠some C:=fun e=>by
   have:=(aF.lt FO _ e).1;omega
  have zV:=fun u v=>World.ownsRow.kept (aF.base (base':=w.heap.size+1) FO (by omega)) (cS w6 C u v) (Or.inr ne6)
  have MH:=((i_ hB2 hb6).setCell (p:=⟨C,0,none⟩) (Nat.le_of_lt hzc) (.bool sB)).setCell (p:=⟨C,1,none⟩) (Nat.le_of_lt hzc) (.slice a6 (Wh.d_ B.natAbs).length cap6);have q4:=r5.store (.bool sB) (.slice a6 (Wh.d_ B.natAbs).length cap6);have q3:=t5.other (c:=C) (by omega) (.bool sB) (.slice a6 (Wh.d_ B.natAbs).length cap6)
  go_roundw
  case rel=>exact ⟨k+1,a6,cap6,by omega,by go_num,by rw [hnx.out,hsB];exact yJ q4,yJ q3,by rw [hnx.out];exact zV _ _,by rw [hnx.out];exact yJ ne6,MH⟩
  case measure=>simp [intOf];omega
 obtain rfl:k=zs.length:=by omega
 rw [List.take_length] at *;have g0:=CY.out.c0;have g1:=CY.out.c1;have g2:=CY.out.f0;have g3:=CY.out.f1;have hr:=cK (w:=w) w.heap.size _ (.bool sT) (yN _) (by omega) hown hbr;rw [hT.out] at hr c0 c1;rw [CP.out] at c0;generalize (Wh.d_ T.natAbs).length=zh at *;clear hw hs1 hs2 hown zi hne;go_wp2;exact bodyPost_ret (v:=.agg #[.bool sT,.slice a zh cx]) (by simp [results,Tryz.results166,go_sem, *]) rfl (⟨_,rfl,hr.1,hr.2⟩)
end
section
namespace Wh
def sz (z:Int) (n:Nat):Prop:=z.natAbs<10000 ^ n
theorem aV {z:Int} {n:Nat}:(d_ z.natAbs).length≤n ↔ sz z n:=by
 constructor
 ·intro h
  have h1:=iP h;have h2:((10000 ^ n:Nat):Int)=(10000:Int) ^ n:=Int.natCast_pow 10000 n;unfold sz;generalize (10000:Int) ^ n=P at *;generalize 10000 ^ n=Q at *;omega
 intro h;exact dQ h
theorem aP {z:Int} {m n:Nat} (h:sz z m) (hmn:m≤n):sz z n:=Nat.lt_of_lt_of_le h (Nat.pow_le_pow_right (by decide) hmn)
theorem am {x y:Int} {m n:Nat} (hx:sz x m) (hy:sz y n):sz (x*y) (m+n):=by
 unfold sz at *;rw [Int.natAbs_mul,Nat.pow_add];exact Nat.mul_lt_mul'' hx hy
theorem gD {x y:Int} {n:Nat} (hx:sz x n) (hy:sz y n):sz (x+y) (n+1):=by
 unfold sz at *;rw [Nat.pow_succ];have:=Int.natAbs_add_le x y;have hp:0<10000 ^ n:=Nat.pow_pos (by decide);omega
theorem ik {x:Int} {n:Nat} (hx:sz x n):sz (-x) n:=by unfold sz at *;rwa [Int.natAbs_neg]
theorem mn {x y:Int} {n:Nat} (hx:sz x n) (hy:sz y n):sz (x - y) (n+1):=by
 rw [Int.sub_eq_add_neg];exact gD hx (ik hy)
theorem cL {z:Int} {n:Nat} (h:sz z n) (hn:n≤9000):small z:=Nat.le_trans (aV.2 h) hn
theorem uZ:sz 1 1:=by unfold sz;decide
theorem vg:sz 0 1:=by unfold sz;decide
theorem bW {n:Int} (h1:-1000000000000000000≤n) (h2:n≤1000000000000000000):sz n 5:=by
 unfold sz
 have:(10000:Nat) ^ 5=100000000000000000000:=by decide
 omega
theorem qg:∀ (zs:List Int) (m:Nat),(∀ z ∈ zs,sz z m)→∀ (a:Int) (n:Nat),sz a n→sz (zs.foldl (·*·) a) (n+zs.length*m)
 | [],m,_,a,n,h=>by simpa using h
 | z :: zs,m,hz,a,n,h=>by
  rw [List.foldl_cons,List.length_cons,show n+(zs.length+1)*m=(n+m)+zs.length*m by rw [Nat.succ_mul];omega];exact qg zs m (fun y hy=>hz y (List.mem_cons_of_mem _ hy)) _ _ (am h (hz z List.mem_cons_self))
theorem iJ {zs:List Int} {m:Nat} (h:∀ z ∈ zs,sz z m) (k:Nat):sz ((zs.take k).foldl (·*·) 1) (1+zs.length*m):=by
 have:=qg (zs.take k) m (fun z hz=>h z (List.mem_of_mem_take hz)) 1 1 uZ;refine aP this ?_
 have:(zs.take k).length≤zs.length:=by rw [List.length_take];omega
 have:=Nat.mul_le_mul_right m this;omega
theorem ua:∀ (zs:List Int) (m:Nat),(∀ z ∈ zs,sz z m)→∀ (a:Int) (n:Nat),m≤n→sz a n→sz (zs.foldl (·+·) a) (n+zs.length)
 | [],m,_,a,n,_,h=>by simpa using h
 | z :: zs,m,hz,a,n,hmn,h=>by
  rw [List.foldl_cons,List.length_cons,show n+(zs.length+1)=(n+1)+zs.length by omega];exact ua zs m (fun y hy=>hz y (List.mem_cons_of_mem _ hy)) _ _ (by omega) (gD h (aP (hz z List.mem_cons_self) hmn))
theorem mo {zs:List Int} {m:Nat} (h:∀ z ∈ zs,sz z m) (hm:1≤m) (k:Nat):sz ((zs.take k).foldl (·+·) 0) (m+zs.length):=by
 have:=ua (zs.take k) m (fun z hz=>h z (List.mem_of_mem_take hz)) 0 m (yN _) (aP vg hm);refine aP this ?_
 have:(zs.take k).length≤zs.length:=by rw [List.length_take];omega
 omega
def bR (a b x z:Int):Int:=x*x*x*x - 2*a*x*x*z*z - 8*b*x*z*z*z+a*a*z*z*z*z
def bJ (a b x z:Int):Int:=4*z*(x*x*x+a*x*z*z+b*z*z*z)
theorem rv (a b x z:Int):[[x,x,x,x].foldl (·*·) 1,[-2*a,x,x,z,z].foldl (·*·) 1,[-8*b,x,z,z,z].foldl (·*·) 1,[a*a,z,z,z,z].foldl (·*·) 1].foldl (·+·) 0=bR a b x z:=by
 simp only [List.foldl_cons,List.foldl_nil];unfold bR
 grind
theorem oc (a b x z:Int):((x*x*(x*x) - x*x*(z*z)*(2*a)) - x*z*(z*z)*(8*b))+z*z*(z*z)*(a*a)=bR a b x z:=by
 unfold bR
 grind
theorem qw (a b x z:Int):[4,z,[[x,x,x].foldl (·*·) 1,[a,x,z,z].foldl (·*·) 1,[b,z,z,z].foldl (·*·) 1].foldl (·+·) 0].foldl (·*·) 1=bJ a b x z:=by
 simp only [List.foldl_cons,List.foldl_nil];unfold bJ
 grind
theorem nJ (a b x z:Int):z*(x*x*x+x*(z*z)*a+z*(z*z)*b)*4=bJ a b x z:=by
 unfold bJ
 grind
end Wh
end
section
open Go.RowKit
theorem dk (a:Int) (va:Value) (w:World) (ba:Nat) (hoa:ag w ba va a) (hl1:(Wh.d_ a.natAbs).length≤10000) :
  Calls Tryz.prog 154 #[.agg #[.bool (decide (a<0)),va]] w fun e w'=>∃ sl,e=.returned (.agg #[.bool (decide (a*a<0)),sl])∧ag w' w.heap.size sl (a*a)∧Below w.heap.size w w':=by
 obtain ⟨aa,p_,rfl,-,-⟩:=aF.view hoa
 have PA:=fun W (h1:aF W ba (.slice aa (Wh.d_ a.natAbs).length p_) (Wh.d_ a.natAbs))=>d6 a a (.slice aa (Wh.d_ a.natAbs).length p_) (.slice aa (Wh.d_ a.natAbs).length p_) W ba ba h1 h1 hl1 hl1
 replace hoa:=yJ (show aF _ _ _ _ from hoa);generalize Wh.d_ a.natAbs=xs,a*a=z,decide (a<0)=s1 at *;generalize decide (z<0)=s,xs.length=l1 at *;replace PA:=yJ PA;have n1:=(ai.new w (.bool s1) (.slice aa l1 p_) 136).alloc (.cells #[.bool false,.slice none 0 0] 136);have n3:=ai.new2 w (.cells #[.bool s1,.slice aa l1 p_] 136) (.bool false) (.slice none 0 0) 136;have Bn:=((yM w.heap.size w).alloc (yN _) (.cells #[.bool s1,.slice aa l1 p_] 136)).alloc (by rw [yK];omega) (.cells #[.bool false,.slice none 0 0] 136);have ho3:=aF.alloc (aF.alloc hoa.out (.cells #[.bool s1,.slice aa l1 p_] 136)) (.cells #[.bool false,.slice none 0 0] 136);generalize hw3:(w.alloc (.cells #[.bool s1,.slice aa l1 p_] 136)).alloc (.cells #[.bool false,.slice none 0 0] 136)=w3 at *;have e1:=n1.c0;have e2:=n1.c1;go_enter Tryz.func154,Tryz.ntmps154
 go_wp2_with (go_at_call 156;(with_reducible refine (PA.out _ ho3).mono ?_);rintro e w5 ⟨vc,rfl,hoc,hbc⟩;obtain ⟨ac,yU,rfl,hmc,yz⟩:=aF.view hoc;have r5:=n3.keep hbc;have c0:=r5.c0;have c1:=r5.c1;have g0:=r5.f0;have g1:=r5.f1;clear yz hmc)
 have hr:=cK (w:=w) (w.heap.size+1) _ (.bool s) (by omega) n3.size hoc (i_ Bn hbc);generalize (Wh.d_ z.natAbs).length=zh at *;exact bodyPost_ret (v:=.agg #[.bool s,.slice ac zh yU]) (by simp [results,Tryz.results154,go_sem, *]) rfl (⟨_,rfl,hr.1,hr.2⟩)
theorem uf (x z:Int) (vx vz:Value) (w:World) (bx bz:Nat) (hox:ag w bx vx x) (zO:ag w bz vz z) (hl1:(Wh.d_ x.natAbs).length≤9000) (hl2:(Wh.d_ z.natAbs).length≤9000) (hb1:Wh.bl x.natAbs≤1000000) (hb2:Wh.bl z.natAbs≤1000000) :
  Calls Tryz.prog 132 #[.agg #[.bool (decide (x<0)),vx,.bool (decide (z<0)),vz]] w fun e w'=>e=.returned (.int .i64 (max (Wh.bl x.natAbs:Nat) (Wh.bl z.natAbs:Nat):Int))∧Below w.heap.size w w':=by
 obtain ⟨ax,cx,rfl,-,-⟩:=aF.view hox;obtain ⟨az,cz,rfl,-,-⟩:=aF.view zO
 have P1:=fun W (h:aF W bx (.slice ax (Wh.d_ x.natAbs).length cx) (Wh.d_ x.natAbs))=>jp x (.slice ax (Wh.d_ x.natAbs).length cx) W bx h hl1 hb1
 have P2:=fun W (h:aF W bz (.slice az (Wh.d_ z.natAbs).length cz) (Wh.d_ z.natAbs))=>jp z (.slice az (Wh.d_ z.natAbs).length cz) W bz h hl2 hb2
 have PM:=fun W=>dp (Wh.bl x.natAbs:Int) (Wh.bl z.natAbs:Int) W
 have DG:Hid (∀ W,Below w.heap.size w W→aF W bx (.slice ax (Wh.d_ x.natAbs).length cx) (Wh.d_ x.natAbs)):=yJ fun W h=>aF.below hox h
 have Dp:Hid (∀ W,Below w.heap.size w W→aF W bz (.slice az (Wh.d_ z.natAbs).length cz) (Wh.d_ z.natAbs)):=yJ fun W h=>aF.below zO h
 clear hox zO;generalize max (Wh.bl x.natAbs:Int) (Wh.bl z.natAbs:Int)=mx at *;generalize Wh.d_ z.natAbs=zs,Wh.d_ x.natAbs=xs,decide (z<0)=s2,decide (x<0)=s1,Wh.bl z.natAbs=k2,Wh.bl x.natAbs=k1 at *;generalize zs.length=lz,xs.length=lx at *;replace P1:=yJ P1;replace P2:=yJ P2;replace PM:=yJ PM;have b1:=iL.new w (.bool s1) (.slice ax lx cx) (.bool s2) (.slice az lz cz) 157;have hB:=(yM w.heap.size w).alloc (yN _) (.cells #[.bool s1,.slice ax lx cx,.bool s2,.slice az lz cz] 157);generalize hw3:w.alloc (.cells #[.bool s1,.slice ax lx cx,.bool s2,.slice az lz cz] 157)=w3 at *;have e0:=b1.c0;have e1:=b1.c1;have e2:=b1.c2;have e3:=b1.c3;go_enter Tryz.func132,Tryz.ntmps132
 go_wp2
 go_region_held3 (fun W=>W.cell? ⟨w.heap.size,0,none⟩=some (.bool s1)∧W.cell? ⟨w.heap.size,1,none⟩=some (.slice ax lx cx)∧W.cell? ⟨w.heap.size,2,none⟩=some (.bool s2)∧W.cell? ⟨w.heap.size,3,none⟩=some (.slice az lz cz)) (first | (refine ⟨?_,?_,?_,?_⟩ <;> (first | (with_reducible exact aE (by assumption) (by assumption)) | (with_reducible exact Gr.bB (by assumption)) | (with_reducible refine Gr.bS (by assumption) ?_;(intro yX;(try simp only [yK,aO,World.heap_drewN,aI] at yX);omega)) | (with_reducible refine Gr.dH (by assumption) ?_ ?_ <;> (intro yX;(try simp only [yK,aO,World.heap_drewN,aI] at yX);omega)) | exact aE (by assumption) (by assumption) | (with_reducible exact ay (by assumption) (by assumption) (by assumption)))) | (go_split_ands;(refine ⟨?_,?_,?_,?_⟩ <;> (first | (with_reducible exact aE (by assumption) (by assumption)) | (with_reducible exact Gr.bB (by assumption)) | (with_reducible refine Gr.bS (by assumption) ?_;(intro yX;(try simp only [yK,aO,World.heap_drewN,aI] at yX);omega)) | (with_reducible refine Gr.dH (by assumption) ?_ ?_ <;> (intro yX;(try simp only [yK,aO,World.heap_drewN,aI] at yX);omega)) | exact aE (by assumption) (by assumption) | (with_reducible exact ay (by assumption) (by assumption) (by assumption))))) | go_keep) ((first
  | (go_at_call 145;first
   | ((with_reducible refine (P1.out _ (DG.out _ hB.drew)).mono ?_);rintro e w4 ⟨rfl,hb4⟩;have FY:=aE hb4 (aX e0);have AP:=aE hb4 (aX e1);have Am:=aE hb4 (aX e2);have BI:=aE hb4 (aX e3);have B4:=hB.drew.trans (hb4.mono hB.size))
   | ((with_reducible refine (P2.out _ (Dp.out _ B4)).mono ?_);rintro e w5 ⟨rfl,hb5⟩;have y0_:=aE hb5 FY;have C0:=aE hb5 AP;have DR:=aE hb5 Am;have EI:=aE hb5 BI;have B5:=i_ B4 hb5))
  | (go_at_call 91;(with_reducible refine (PM.out _).mono ?_);rintro e w6 ⟨rfl,rfl⟩)
  | fail "ARMS"))
 all_goals
  go_wp2;go_ret;exact ⟨rfl,B5⟩
theorem yE {w2:World} {sl:Value} {xs:List Int} (c base:Nat) (u v x y:Value) (h2:c<base) (hoc:aF w2 base sl xs) :
  aF ((((w2.setCell ⟨c,0,none⟩ u).setCell ⟨c,1,none⟩ v).setCell ⟨c,2,none⟩ x).setCell ⟨c,3,none⟩ y) base sl xs:=by
 refine World.ownsRow.kept hoc (Gr.set (Gr.set (cS w2 c u v) 2 x) 3 y) ?_
 cases hs:sl.ownBlock with
 | none=>exact Or.inl rfl
 | some g=>
 right
 intro e
 injection e with e
 have:=(aF.lt hoc g hs).1;omega
theorem xQ (n d:Int) (w:World) (hn1:-1000000000000000000≤n) (hn2:n≤1000000000000000000) (hd1:-1000000000000000000≤d) (hd2:d≤1000000000000000000) :
  Calls Tryz.prog 142 #[.int .i64 n,.int .i64 d] w fun e w'=>∃ vx vz,e=.returned (.agg #[.bool (decide (n<0)),vx,.bool (decide (d<0)),vz])∧ag w' w.heap.size vx n∧ag w' w.heap.size vz d∧Below w.heap.size w w':=by
 have PN:=yJ fun W=>jq n W hn1 hn2
 have PD:=yJ fun W=>jq d W hd1 hd2
 have b0:=iL.new w (.bool false) (.slice none 0 0) (.bool false) (.slice none 0 0) 157;have hB:=(yM w.heap.size w).alloc (yN _) (.cells #[.bool false,.slice none 0 0,.bool false,.slice none 0 0] 157);generalize decide (d<0)=s2,decide (n<0)=s1 at *;generalize hw3:w.alloc (.cells #[.bool false,.slice none 0 0,.bool false,.slice none 0 0] 157)=w3 at *;go_enter Tryz.func142,Tryz.ntmps142
 go_wp2_with (go_at_call 147;first
  | ((with_reducible refine (PN.out _).mono ?_);rintro e w4 ⟨vx,rfl,hox,hbx⟩;obtain ⟨ax,Ej,rfl,hmx,hvx⟩:=aF.view hox;clear hmx hvx;replace hox:=yJ hox;have b4:=b0.keep hbx;have B4:=i_ hB hbx)
  | ((with_reducible refine (PD.out _).mono ?_);rintro e w5 ⟨vz,rfl,zO,hbz⟩;obtain ⟨az,Ek,rfl,hmz,hvz⟩:=aF.view zO;clear hmz hvz;have b5:=b4.keep hbz;have B5:=i_ B4 hbz;have Mn:=aF.below hox.out hbz;have c0:=b5.c0;have c1:=b5.c1;have c2:=b5.c2;have c3:=b5.c3;have f0:=b5.f0;have f1:=b5.f1;have f2:=b5.f2;have f3:=b5.f3))
 have h3:=b0.size;have h4:=b4.size;have r1:=aF.base (yE w.heap.size _ (.bool s1) (.slice ax (Wh.d_ n.natAbs).length Ej) (.bool s2) (.slice az (Wh.d_ d.natAbs).length Ek) (by omega) Mn) (Nat.le_of_lt h3);have r2:=aF.base (yE w.heap.size _ (.bool s1) (.slice ax (Wh.d_ n.natAbs).length Ej) (.bool s2) (.slice az (Wh.d_ d.natAbs).length Ek) (by omega) zO) (Nat.le_of_lt h4)
 have r3:Below w.heap.size w ((((w5.setCell ⟨w.heap.size,0,none⟩ (.bool s1)).setCell ⟨w.heap.size,1,none⟩ (.slice ax (Wh.d_ n.natAbs).length Ej)).setCell ⟨w.heap.size,2,none⟩ (.bool s2)).setCell ⟨w.heap.size,3,none⟩ (.slice az (Wh.d_ d.natAbs).length Ek)):=by
  refine yL (yL (yL (yL B5 ?_ _) ?_ _) ?_ _) ?_ _ <;> exact yN _
 generalize (Wh.d_ d.natAbs).length=ld,(Wh.d_ n.natAbs).length=ln at *;exact bodyPost_ret (v:=.agg #[.bool s1,.slice ax ln Ej,.bool s2,.slice az ld Ek]) (by simp [results,Tryz.results142,go_sem, *]) rfl (⟨_,_,rfl,r1,r2,r3⟩)
theorem lE (a b:Int) (w:World) (h:M.bE a b=true) :
  Calls Tryz.prog 65 #[.agg #[.int .i64 a,.int .i64 b]] w fun e w'=>e=.returned (.int .i64 (M.bC a b))∧Below w.heap.size w w':=by
 obtain ⟨h1,h1',h2,h2'⟩:=M.an h;have b1:=M.aK (x:=4*a) (y:=a) (m:=4000) (n:=1000) (by omega) (by omega) (by omega) (by omega);have b2:=M.aK (x:=4*a*a) (y:=a) (m:=4000000) (n:=1000) (by omega) (by omega) (by omega) (by omega);have b3:=M.aK (x:=27*b) (y:=b) (m:=270000) (n:=10000) (by omega) (by omega) (by omega) (by omega);go_enter Tryz.func65,Tryz.ntmps65
 go_wp2;go_ret;exact ⟨rfl,((yM w.heap.size w).alloc (yN _) _)⟩
theorem eM {a b:Int} (h:M.bE a b=true):(M.bC a b).natAbs≤6700000000:=by
 obtain ⟨h1,h1',h2,h2'⟩:=M.an h;have b1:=M.aK (x:=4*a) (y:=a) (m:=4000) (n:=1000) (by omega) (by omega) (by omega) (by omega);have b2:=M.aK (x:=4*a*a) (y:=a) (m:=4000000) (n:=1000) (by omega) (by omega) (by omega) (by omega);have b3:=M.aK (x:=27*b) (y:=b) (m:=270000) (n:=10000) (by omega) (by omega) (by omega) (by omega);unfold M.bC;omega
theorem fR {a b:Int} (h:M.good a b=true):M.bC a b≠0:=by
 unfold M.good at h;simp only [Bool.and_eq_true,bne_iff_ne] at h;exact h.2
theorem i9 (a b t u:Int) (vt vu:Value) (w:World) (bt bu:Nat) (hg:M.good a b=true) (hot:ag w bt vt t) (hou:ag w bu vu u) (hl1:(Wh.d_ t.natAbs).length≤9000) (hl2:(Wh.d_ u.natAbs).length≤9000) :
  Calls Tryz.prog 160 #[.agg #[.int .i64 a,.int .i64 b],.agg #[.bool (decide (t<0)),vt],.agg #[.bool (decide (u<0)),vu]] w fun e w'=>e=.returned (.int .i64 (M.gcd (M.gcd (4*((M.bC a b).natAbs:Int)) (t % (4*((M.bC a b).natAbs:Int)))) (u % (4*((M.bC a b).natAbs:Int)))))∧Below w.heap.size w w':=by
 obtain ⟨at_,ct,rfl,-,-⟩:=aF.view hot;obtain ⟨au,cu,rfl,-,-⟩:=aF.view hou;have hin:=M.bM hg;have hdb:=eM hin;have hdn:=fR hg
 have hdp:1≤(M.bC a b).natAbs:=by omega
 have PD:=fun W=>lE a b W hin
 have PA:=fun W=>dL (M.bC a b) W (by omega) (by omega)
 clear hin hg hdn;generalize M.bC a b=D at *;generalize hd:D.natAbs=d at *
 have P1:=fun W (h:aF W bt (.slice at_ (Wh.d_ t.natAbs).length ct) (Wh.d_ t.natAbs))=>eK t (4*(d:Int)) (.slice at_ (Wh.d_ t.natAbs).length ct) W bt h hl1 (by omega) (by omega)
 have P2:=fun W (h:aF W bu (.slice au (Wh.d_ u.natAbs).length cu) (Wh.d_ u.natAbs))=>eK u (4*(d:Int)) (.slice au (Wh.d_ u.natAbs).length cu) W bu h hl2 (by omega) (by omega)
 have r1:=Int.emod_nonneg t (b:=4*(d:Int)) (by omega);have r2:=Int.emod_lt_of_pos t (b:=4*(d:Int)) (by omega);have r3:=Int.emod_nonneg u (b:=4*(d:Int)) (by omega);have r4:=Int.emod_lt_of_pos u (b:=4*(d:Int)) (by omega);generalize t % (4*(d:Int))=x at *;generalize u % (4*(d:Int))=y at *
 have PG:=fun (m n:Int) W (h1:0≤m) (h2:m≤9000000000000000000) (h3:0≤n) (h4:n≤9000000000000000000)=>dP m n W h1 h2 h3 h4
 have g0:0≤M.gcd (4*(d:Int)) x:=by unfold M.gcd;omega
 have g1:M.gcd (4*(d:Int)) x≤26800000000:=by
  have en:(4*(d:Int)).natAbs=4*d:=by omega
  have:=Nat.gcd_le_left x.natAbs (show 0<4*d by omega);unfold M.gcd Int.gcd;rw [en];omega
 have hOT:Hid (∀ W,Below w.heap.size w W→aF W bt (.slice at_ (Wh.d_ t.natAbs).length ct) (Wh.d_ t.natAbs)):=yJ fun W h=>aF.below hot h
 have hOU:Hid (∀ W,Below w.heap.size w W→aF W bu (.slice au (Wh.d_ u.natAbs).length cu) (Wh.d_ u.natAbs)):=yJ fun W h=>aF.below hou h
 clear hot hou hl1 hl2;generalize decide (u<0)=s2,decide (t<0)=s1 at *;generalize decide (t / (4*(d:Int))<0)=s3 at *;generalize decide (u / (4*(d:Int))<0)=s4 at *;generalize t / (4*(d:Int))=qt at *;generalize u / (4*(d:Int))=qu at *;generalize Wh.d_ u.natAbs=us,Wh.d_ t.natAbs=ts at *;generalize us.length=lu,ts.length=lt at *;replace PD:=yJ PD;replace PA:=yJ PA;replace P1:=yJ P1;replace P2:=yJ P2;replace PG:=yJ PG;have b1:=((ai.new w (.int .i64 a) (.int .i64 b) 29).alloc (.cells #[.bool s1,.slice at_ lt ct] 136)).alloc (.cells #[.bool s2,.slice au lu cu] 136);have b2:=(ai.new2 w (.cells #[.int .i64 a,.int .i64 b] 29) (.bool s1) (.slice at_ lt ct) 136).alloc (.cells #[.bool s2,.slice au lu cu] 136);have b3:=ai.new (((w.alloc (.cells #[.int .i64 a,.int .i64 b] 29)).alloc (.cells #[.bool s1,.slice at_ lt ct] 136))) (.bool s2) (.slice au lu cu) 136;rw [cU] at b3;have hB:=(((yM w.heap.size w).alloc (yN _) (.cells #[.int .i64 a,.int .i64 b] 29)).alloc (by rw [yK];omega) (.cells #[.bool s1,.slice at_ lt ct] 136)).alloc (by rw [cU];omega) (.cells #[.bool s2,.slice au lu cu] 136)
 have hz:(((w.alloc (.cells #[.int .i64 a,.int .i64 b] 29)).alloc (.cells #[.bool s1,.slice at_ lt ct] 136)).alloc (.cells #[.bool s2,.slice au lu cu] 136)).heap.size=w.heap.size+3:=by rw [yK,cU]
 generalize hw3:((w.alloc (.cells #[.int .i64 a,.int .i64 b] 29)).alloc (.cells #[.bool s1,.slice at_ lt ct] 136)).alloc (.cells #[.bool s2,.slice au lu cu] 136)=w3 at *;have e0:=b1.c0;have e1:=b1.c1;go_enter Tryz.func160,Tryz.ntmps160
 go_wp2_with (first
  | (go_at_call 65;(with_reducible refine (PD.out _).mono ?_);rintro e w4 ⟨rfl,hb4⟩;have x2:=b2.keep hb4;have x3:=b3.keep hb4;have B4:=i_ hB hb4;have f1:=x2.c0;have f2:=x2.c1)
  | (go_at_call 84;(with_reducible refine (PA.out _).mono ?_);rintro e w5 ⟨rfl,rfl⟩)
  | (go_at_call 161;first
   | ((with_reducible refine (P1.out _ (hOT.out _ B4)).mono ?_);rintro e w6 ⟨vq,rfl,hoq,hbq⟩;obtain ⟨aq,cq,rfl,C_,NO⟩:=aF.view hoq;clear C_ NO hoq;(generalize (Wh.d_ qt.natAbs).length=lq at *);have x6:=x3.keep hbq;have B6:=i_ B4 hbq;have x7:=x6.alloc (.cells #[.bool s3,.slice aq lq cq] 136);have B7:=B6.alloc B6.size (.cells #[.bool s3,.slice aq lq cq] 136);(have f3:(w6.alloc (.cells #[.bool s3,.slice aq lq cq] 136)).cell? ⟨w.heap.size+1+1,0,none⟩=some (.bool s2):=x7.c0);(have f4:(w6.alloc (.cells #[.bool s3,.slice aq lq cq] 136)).cell? ⟨w.heap.size+1+1,1,none⟩=some (.slice au lu cu):=x7.c1))
   | ((with_reducible refine (P2.out _ (hOU.out _ B7)).mono ?_);rintro e w8 ⟨vp,rfl,hop,hbp⟩;obtain ⟨ap,cp,rfl,hmp,hvp⟩:=aF.view hop;clear hmp hvp hop;(generalize (Wh.d_ qu.natAbs).length=lp at *);have B8:=i_ B7 hbp;have B9:=B8.alloc B8.size (.cells #[.bool s4,.slice ap lp cp] 136)))
  | (go_at_call 83;first
   | ((with_reducible refine (PG.out (4*(d:Int)) x _ (by omega) (by omega) (by omega) (by omega)).mono ?_);rintro e w9 ⟨rfl,rfl⟩)
   | ((with_reducible refine (PG.out (M.gcd (4*(d:Int)) x) y _ (by omega) (by omega) (by omega) (by omega)).mono ?_);rintro e w9 ⟨rfl,rfl⟩))
  | fail "ARMS")
 go_ret;exact ⟨rfl,B9⟩
theorem iL.alloc {w:World} {b:Nat} {u v x y:Value} (h:iL w b u v x y) (o:Obj):iL (w.alloc o) b u v x y:=h.keep ((yM w.heap.size w).alloc (yN _) o)
def sU (B:Nat) (W:World) (p u v:Value):Prop:=∃ g,p=.pointer (some ⟨g,0,none⟩)∧B≤g∧ai W g u v
theorem sU.keep {B:Nat} {W W':World} {p u v:Value} (h:sU B W p u v) (hb:Below W.heap.size W W'):sU B W' p u v:=by
 obtain ⟨g,e,hB,h⟩:=h;exact ⟨g,e,hB,h.keep hb⟩
end
section
open Go
namespace Rg
variable {P:Program} {Q:Exit→Act→World→Prop} {md:Region.Mode}
def fill (l:Nat→Bool) (vals:Nat→Value):List Oper→Nat→Act→Act
 | [],_,a=>a
 | o :: os,k,a=>fill l vals os (k+1) (if l k then a.put o.dst (vals k) else a)
def sep (o x:Oper):Bool:=match o.dst with | some d=>x.dst != some d | none=>true
def apart:List Oper→Bool
 | []=>true
 | o :: os=>os.all (sep o) && apart os
theorem ak:(∀ (α:Type) (a:α) (l:List α) (n:Nat),(a :: l).take (n+1)=a :: l.take n)∧(∀ (α:Type) (l:List α),l.take 0=[])∧(∀ (α:Type) (a:α) (l:List α) (n:Nat),(a :: l).drop (n+1)=l.drop n)∧(∀ (α:Type) (l:List α),l.drop 0=l)∧(∀ (α:Type) [Decidable True] (a b:α),(if True then a else b)=a)∧(∀ (α:Type) (l:List α) (i:Nat) (a:α),l.toArray.setIfInBounds i a=(l.set i a).toArray)∧(∀ (α:Type) (x a:α) (l:List α),(x :: l).set 0 a=a :: l)∧(∀ (α:Type) (x a:α) (l:List α) (n:Nat),(x :: l).set (n+1) a=x :: l.set n a)∧∀ n:Nat,0+n=n:=
 ⟨fun _ _ _ _=>List.take_succ_cons,fun _ _=>List.take_zero,fun _ _ _ _=>List.drop_succ_cons,fun _ _=>List.drop_zero,fun _ _ _ _=>if_true ..,fun _ _ _ _=>List.setIfInBounds_toArray ..,fun _ _ _ _=>List.set_cons_zero,fun _ _ _ _ _=>List.set_cons_succ,Nat.zero_add⟩
theorem cH {l l':Nat→Bool} {v v':Nat→Value}:∀ (os:List Oper) (k:Nat) (a:Act),(∀ j,k≤j→j<k+os.length→l j=l' j)→(∀ j,k≤j→l j=true→v j=v' j)→fill l v os k a=fill l' v' os k a
 | [],_,_,_,_=>rfl
 | o :: os,k,a,h1,h2=>by
  unfold fill;rw [←h1 k (yN _) (by simp)]
  cases hl:l k
  ·simp only [Bool.false_eq_true,if_false]
   exact cH os (k+1) a (fun j hj hj2=>h1 j (by omega) (by simp;omega)) (fun j hj=>h2 j (by omega))
  simp only [if_true];rw [h2 k (yN _) hl];exact cH os (k+1) _ (fun j hj hj2=>h1 j (by omega) (by simp;omega)) (fun j hj=>h2 j (by omega))
theorem nY {l:Nat→Bool} {v:Nat→Value} {d:Option Tmp} {u:Value}:∀ (os:List Oper) (k:Nat) (a:Act),(∀ x ∈ os,∀ t,d=some t→x.dst≠some t)→(fill l v os k a).put d u=fill l v os k (a.put d u)
 | [],_,_,_=>rfl
 | o :: os,k,a,h=>by
  unfold fill;rw [nY os (k+1) _ (fun x hx=>h x (List.mem_cons_of_mem _ hx))]
  congr 1
  split
  ·exact (Act.put_comm a u (v k) (h o (List.mem_cons_self ..))).symm
  rfl
theorem hP {l:Nat→Bool} {v:Nat→Value} {u:Value}:∀ (os:List Oper) (k i:Nat) (o:Oper) (a:Act),apart os=true→os[i]?=some o→l (k+i)=false→
  (fill l v os k a).put o.dst u=fill (fun j=>if j=k+i then true else l j) (fun j=>if j=k+i then u else v j) os k a
 | [],_,_,_,_,_,h,_=>by simp at h
 | x :: os,k,0,o,a,ha,h,hl=>by
  simp only [List.getElem?_cons_zero,Option.some.injEq] at h;subst h;rw [apart,Bool.and_eq_true] at ha
  have hs:∀ y ∈ os,∀ t,x.dst=some t→y.dst≠some t:=fun y hy t ht=>by
   have:=List.all_eq_true.1 ha.1 y hy;rw [sep,ht] at this
   simpa using this
  unfold fill;rw [Nat.add_zero] at hl ⊢;rw [nY os (k+1) _ hs,if_neg (by simp [hl])]
  have e:(if (if k=k then true else l k)=true then a.put x.dst (if k=k then u else v k) else a)=a.put x.dst u:=by simp
  show _=fill _ _ os (k+1) (if (if k=k then true else l k)=true then a.put x.dst (if k=k then u else v k) else a)
  rw [e];exact cH os (k+1) _ (fun j hj _=>by rw [if_neg (by omega)]) (fun j hj _=>by rw [if_neg (by omega)])
 | x :: os,k,i+1,o,a,ha,h,hl=>by
  rw [apart,Bool.and_eq_true] at ha;rw [show k+(i+1)=k+1+i from by omega] at hl ⊢;unfold fill;rw [hP os (k+1) i o _ ha.2 (by simpa using h) hl]
  congr 1
  rw [if_neg (show ¬ k=k+1+i by omega),if_neg (show ¬ k=k+1+i by omega)]
theorem uI (a:Act) (d:Option Tmp) (v:Value):(a.put d v).tmps.size=a.tmps.size:=by
 cases d <;> simp [Act.put]
theorem vT {a:Act} {d:Option Tmp} {v:Value} {t:Nat} (h:d≠some t):(a.put d v).tmps[t]?=a.tmps[t]?:=by
 cases d with
 | none=>rfl
 | some d=>simp only [Act.put];rw [Array.getElem?_setIfInBounds_ne (by intro e;exact h (by rw [e]))]
theorem mY {a:Act} {v:Value} {t:Nat} (h:t<a.tmps.size):(a.put (some t) v).tmps[t]?=some v:=by
 simp [Act.put,h]
theorem eO {l:Nat→Bool} {v:Nat→Value} {t:Nat}:∀ (os:List Oper) (k:Nat) (a:Act),(∀ i o,os[i]?=some o→l (k+i)=true→o.dst≠some t)→(fill l v os k a).tmps[t]?=a.tmps[t]?
 | [],_,_,_=>rfl
 | o :: os,k,a,h=>by
  unfold fill;rw [eO os (k+1) _ (fun i x hx hl=>h (i+1) x (by simpa using hx) (by rw [show k+(i+1)=k+1+i from by omega];exact hl))]
  split
  ·rename_i hk
   exact vT (h 0 o rfl hk)
  rfl
theorem jM {l:Nat→Bool} {v:Nat→Value} {t:Nat}:∀ (os:List Oper) (k i:Nat) (o:Oper) (a:Act),apart os=true→os[i]?=some o→l (k+i)=true→o.dst=some t→t<a.tmps.size→(fill l v os k a).tmps[t]?=some (v (k+i))
 | [],_,_,_,_,_,h,_,_,_=>by simp at h
 | x :: os,k,0,o,a,ha,h,hl,hd,ht=>by
  simp only [List.getElem?_cons_zero,Option.some.injEq] at h;subst h;rw [apart,Bool.and_eq_true] at ha;unfold fill;rw [Nat.add_zero] at hl ⊢
  rw [eO os (k+1) _ (fun i y hy _=>by
   have:=List.all_eq_true.1 ha.1 y (List.mem_of_getElem? hy);rw [sep,hd] at this
   simpa using this),if_pos hl,hd]
  exact mY ht
 | x :: os,k,i+1,o,a,ha,h,hl,hd,ht=>by
  rw [apart,Bool.and_eq_true] at ha;rw [show k+(i+1)=k+1+i from by omega] at hl ⊢;unfold fill;refine jM os (k+1) i o _ ha.2 (by simpa using h) hl hd ?_
  split
  ·rw [uI];exact ht
  exact ht
def left (l:Nat→Bool):Nat→Nat
 | 0=>0
 | n+1=>left l n+if l n then 0 else 1
theorem lM {l l':Nat→Bool}:∀ n:Nat,(∀ j,j<n→l j=l' j)→left l n=left l' n
 | 0,_=>rfl
 | n+1,h=>by unfold left;rw [lM n (fun j hj=>h j (by omega)),h n (by omega)]
theorem iC {l l':Nat→Bool} {i:Nat} (h0:l i=false) (h1:l' i=true) (h2:∀ j,j≠i→l' j=l j):∀ n:Nat,i<n→left l' n+1=left l n
 | 0,h=>by omega
 | n+1,h=>by
  unfold left
  rcases Nat.lt_or_ge i n with q | q
  ·have:=iC h0 h1 h2 n q
   rw [h2 n (by omega)];omega
  obtain rfl:i=n:=by omega
  rw [lM i (l:=l') (l':=l) (fun j hj=>h2 j (by omega)),h0,h1];simp
theorem gJ {l:Nat→Bool}:∀ n:Nat,left l n=0→∀ j,j<n→l j=true
 | 0,_,j,hj=>by omega
 | n+1,h,j,hj=>by
  unfold left at h
  cases hn:l n
  ·rw [hn] at h;simp at h
  rcases Nat.lt_or_ge j n with q | q
  ·exact gJ n (by omega) j q
  obtain rfl:j=n:=by omega
  exact hn
def rd (md:Region.Mode) (ops:Array Oper) (a0:Act) (vals:Nat→Value) (o:Oper) (t:Nat):Option Value:=
 match o.after.toList.find? (fun e=>Region.binds md e && ((ops[e.on]?).bind (·.dst)) == some t) with
 | some e=>some (vals e.on)
 | none=>a0.tmps[t]?
def gj (md:Region.Mode) (ops:Array Oper) (i:Nat) (o:Oper) (t:Nat):Bool:=
 o.after.toList.any (fun e=>Region.binds md e && ((ops[e.on]?).bind (·.dst)) == some t) ||
 (List.range ops.size).all fun j=>match ops[j]? with
  | some x=>x.dst != some t || j == i || x.after.toList.any (fun e=>Region.binds md e && e.on == i)
  | none=>true
def vN (md:Region.Mode) (ops:Array Oper):Bool:=(List.range ops.size).all fun i=>match ops[i]? with
 | some o=>(o.looksAt ops).all (gj md ops i o)
 | none=>true
def dw (md:Region.Mode) (ops:Array Oper) (n:Nat):Bool:=
 apart ops.toList && vN md ops && ((List.range ops.size).all fun i=>match ops[i]? with
  | some o=>o.after.toList.all (fun e=>!Region.binds md e || decide (e.on<i)) && (match o.dst with | some d=>decide (d<n) | none=>true)
  | none=>true)
section
variable (P) (Q) (md) (ops:Array Oper) (S:World→Prop) (V:Nat→Value→World→Prop) (a0:Act)
def wX (i:Nat) (o:Oper) (a:Act) (w:World):Prop:=
 if Region.wanted o (yielded ops a.tmps)=true then o.wp P a w (fun a' w'=>∃ v,a'=a.put o.dst v∧V i v w'∧S w'∧∀ j u,V j u w→V j u w') Q else V i undef w
def Req (i:Nat) (o:Oper):Prop:=∀ (a:Act) (w:World) (vals:Nat→Value),S w→(∀ e ∈ o.after,Region.binds md e=true→V e.on (vals e.on) w)→(∀ t ∈ o.looksAt ops,a.tmps[t]?=rd md ops a0 vals o t)→wX P Q ops S V i o a w
def pC:List Oper→Nat→Prop
 | [],_=>True
 | o :: os,k=>Req P Q md ops S V a0 k o∧pC os (k+1)
theorem pC.at {os:List Oper} {k:Nat} (h:pC P Q md ops S V a0 os k):∀ {i:Nat} {o:Oper},os[i]?=some o→Req P Q md ops S V a0 (k+i) o:=by
 induction os generalizing k with
 | nil=>intro i o hi;simp at hi
 | cons x os ih=>
 intro i o hi
 cases i with
 | zero=>
  simp only [List.getElem?_cons_zero,Option.some.injEq] at hi;subst hi;exact h.1
 | succ i=>
 have:=ih h.2 (i:=i) (o:=o) (by simpa using hi);rw [show k+(i+1)=k+1+i from by omega];exact this
def Inv (L:Array Bool) (a:Act) (w:World):Prop:=
 L.size=ops.size∧S w∧(∀ i o,ops[i]?=some o→L.getD i false=true→∀ e ∈ o.after,Region.binds md e=true→L.getD e.on false=true)∧
 ∃ vals:Nat→Value,a=fill (fun j=>L.getD j false) vals ops.toList 0 a0∧∀ i,i<ops.size→L.getD i false=true→V i (vals i) w
end
theorem ue {ops:Array Oper} {S:World→Prop} {V:Nat→Value→World→Prop} {a0:Act} (hok:dw md ops a0.tmps.size=true)
  (hR:pC P Q md ops S V a0 ops.toList 0) (hF:∀ (vals:Nat→Value) (w:World),S w→(∀ i,i<ops.size→V i (vals i) w)→Q .normal (fill (fun _=>true) vals ops.toList 0 a0) w) :
  ∀ (fuel:Nat) (L:Array Bool) (a:Act) (w:World),left (fun j=>L.getD j false) ops.size≤fuel→Inv md ops S V a0 L a w→wpAny P md ops Q fuel L a w:=by
 rw [dw,Bool.and_eq_true,Bool.and_eq_true] at hok;obtain ⟨⟨hap,hrd⟩,hac⟩:=hok
 have A3:∀ i o,ops[i]?=some o→(∀ e ∈ o.after,Region.binds md e=true→e.on<i)∧∀ d,o.dst=some d→d<a0.tmps.size:=fun i o hi=>by
  have hlt:i<ops.size:=(Array.getElem?_eq_some_iff.1 hi).1;have:=List.all_eq_true.1 hac i (List.mem_range.2 hlt);rw [hi] at this;simp only [Bool.and_eq_true,List.all_eq_true,Bool.or_eq_true,Bool.not_eq_true',decide_eq_true_eq] at this;refine ⟨fun e he hb=>?_,fun d hd=>?_⟩
  ·rcases this.1 e (Array.mem_toList_iff.2 he) with q | q
   ·rw [hb] at q;cases q
   exact q
  have:=this.2;rw [hd] at this
  simpa using this
 have htl:∀ i,ops.toList[i]?=ops[i]?:=fun i=>Array.getElem?_toList
 have hall:∀ L:Array Bool,L.size=ops.size→Region.ready md ops L=[]→∀ i,i<ops.size→L.getD i false=true:=by
  intro L hL hr i
  induction i using Nat.strongRecOn with
  | ind i ih=>
  intro hi
  cases hl:L.getD i false
  ·exfalso
   have hm:i ∈ Region.ready md ops L:=by
    unfold Region.ready;rw [List.mem_filter];refine ⟨List.mem_range.2 hi,?_⟩
    have hg:L.getD i true=false:=by
     rw [Array.getD_eq_getD_getElem?,Array.getElem?_eq_getElem (by omega)] at hl ⊢;exact hl
    rw [hg,Array.getElem?_eq_getElem hi];simp only [Bool.not_false,Bool.true_and,Option.map_some,Option.getD_some];rw [Array.all_eq_true_iff_forall_mem];intro e he
    cases hb:Region.binds md e
    ·rfl
    have hlt:=(A3 i _ (Array.getElem?_eq_getElem hi)).1 e he hb;simp [ih e.on hlt (by omega)]
   rw [hr] at hm;cases hm
  rfl
 have hfin:∀ (L:Array Bool) (a:Act) (w:World),Inv md ops S V a0 L a w→Region.ready md ops L=[]→Q .normal a w:=by
  rintro L a w ⟨hL,hS,-,vals,rfl,hv⟩ hr;have h:=hall L hL hr;rw [cH (l':=fun _=>true) (v':=vals) ops.toList 0 a0 (fun j _ hj=>h j (by simpa using hj)) (fun _ _ _=>rfl)]
  exact hF vals w hS fun i hi=>hv i hi (h i hi)
 intro fuel
 induction fuel with
 | zero=>
  intro L a w hl hI;have hz:=gJ _ (Nat.le_zero.1 hl)
  have hr:Region.ready md ops L=[]:=by
   unfold Region.ready;rw [List.filter_eq_nil_iff];intro i hi;have hi:=List.mem_range.1 hi;have h1:=hz i hi
   have hg:L.getD i true=true:=by
    have hsz:=hI.1;simp only [Array.getD_eq_getD_getElem?] at h1 ⊢;rw [Array.getElem?_eq_getElem (by omega)] at h1 ⊢;exact h1
   rw [hg];simp
  exact ⟨hr,hfin L a w hI hr⟩
 | succ fuel ih=>
 intro L a w hl hI;refine ⟨hfin L a w hI,fun i hi=>?_⟩;obtain ⟨hL,hS,hdc,vals,rfl,hv⟩:=hI;obtain ⟨hun,o,ho,C9⟩:=mem_ready.1 hi;have hilt:i<ops.size:=(Array.getElem?_eq_some_iff.1 ho).1
 have hun':L.getD i false=false:=by
  simp only [Array.getD_eq_getD_getElem?] at hun ⊢;rw [Array.getElem?_eq_getElem (by omega)] at hun ⊢;exact hun
 have hq:=pC.at P Q md ops S V a0 hR (i:=i) (o:=o) (by rw [htl];exact ho);rw [Nat.zero_add] at hq
 have hst:=hq (fill (fun j=>L.getD j false) vals ops.toList 0 a0) w vals hS
  (fun e he hb=>hv e.on (by have:=(A3 i o ho).1 e he hb;omega) (C9 e he hb))
  (fun t ht=>by
   unfold rd
   have hr1:gj md ops i o t=true:=by
    have:=List.all_eq_true.1 hrd i (List.mem_range.2 hilt);rw [ho] at this;exact List.all_eq_true.1 this t ht
   cases hf:o.after.toList.find? (fun e=>Region.binds md e && ((ops[e.on]?).bind (·.dst)) == some t) with
   | some e=>
    have h1:=List.find?_some hf;have h2:=List.mem_of_find?_eq_some hf;rw [Bool.and_eq_true,beq_iff_eq] at h1;obtain ⟨x,hx,hxd⟩:=Option.bind_eq_some_iff.1 h1.2;have h3:=C9 e (Array.mem_toList_iff.1 h2) h1.1;have:=jM (l:=fun j=>L.getD j false) (v:=vals) ops.toList 0 e.on x a0 hap (by rw [htl];exact hx) (by simpa using h3) hxd ((A3 e.on x hx).2 t hxd);rw [Nat.zero_add] at this;exact this
   | none=>
   refine eO ops.toList 0 a0 fun j x hx hlj hxd=>?_
   rw [Nat.zero_add] at hlj;rw [htl] at hx;have hjlt:j<ops.size:=(Array.getElem?_eq_some_iff.1 hx).1;rw [gj,Bool.or_eq_true] at hr1
   rcases hr1 with q | q
   ·obtain ⟨e,he,hp⟩:=List.any_eq_true.1 q
    have:=List.find?_eq_none.1 hf e he;exact this hp
   have:=List.all_eq_true.1 q j (List.mem_range.2 hjlt);rw [hx] at this;simp only [Bool.or_eq_true,bne_iff_ne,ne_eq,beq_iff_eq,List.any_eq_true,Bool.and_eq_true] at this
   rcases this with (q1 | q1) | ⟨e,he,hb,hon⟩
   ·exact q1 hxd
   ·subst q1
    rw [hun'] at hlj;cases hlj
   have:=hdc j x hx hlj e (Array.mem_toList_iff.1 he) hb;rw [hon,hun'] at this
   cases this)
 have hnext:∀ (v:Value) (w':World),V i v w'→S w'→(∀ j u,V j u w→V j u w')→wpAny P md ops Q fuel (L.setIfInBounds i true) ((fill (fun j=>L.getD j false) vals ops.toList 0 a0).put o.dst v) w':=by
  intro v w' h1 h2 h3
  have e1:∀ j,(L.setIfInBounds i true).getD j false=if j=i then true else L.getD j false:=fun j=>by
   simp only [Array.getD_eq_getD_getElem?]
   by_cases hji:j=i
   ·subst hji
    rw [Array.getElem?_setIfInBounds_self_of_lt (by omega)];simp
   rw [Array.getElem?_setIfInBounds_ne (fun e=>hji e.symm),if_neg hji]
  refine ih _ _ _ ?_ ⟨by simpa using hL,h2,?_,fun j=>if j=i then v else vals j,?_,?_⟩
  ·have:=iC (l:=fun j=>L.getD j false) (l':=fun j=>(L.setIfInBounds i true).getD j false) hun' (by rw [e1,if_pos rfl]) (fun j hj=>by rw [e1,if_neg hj]) ops.size hilt
   omega
  ·intro j x hx hlj e he hb
   rw [e1] at hlj ⊢
   split
   ·rfl
   split at hlj
   ·rename_i hji
    subst hji;rw [ho] at hx;cases hx
    exact C9 e he hb
   exact hdc j x hx hlj e he hb
  ·rw [hP ops.toList 0 i o a0 hap (by rw [htl];exact ho) (by simpa using hun')]
   rw [Nat.zero_add];exact cH _ _ _ (fun j _ _=>(e1 j).symm) (fun _ _ _=>rfl)
  intro j hj hlj;rw [e1] at hlj
  show V j (if j=i then v else vals j) w'
  split
  ·rename_i hji
   rw [hji];exact h1
  rename_i hji
  rw [if_neg hji] at hlj;exact h3 _ _ (hv j hj hlj)
 unfold wpOp;rw [ho];unfold wX at hst
 dsimp only
 split at hst
 ·rename_i hw
  rw [if_pos hw];refine Or.inl (Oper.wp_mono ?_ hst);rintro a' w' ⟨v,rfl,h1,h2,h3⟩;exact hnext v w' h1 h2 h3
 rename_i hw
 rw [if_neg hw]
 exact hnext undef w hst hS fun _ _ h=>h
theorem region {id:Nat} {ops:Array Oper} {a0:Act} {w:World} (S:World→Prop) (V:Nat→Value→World→Prop) (hm:P.follows .mixedOrders=true) (hok:dw .any ops a0.tmps.size=true)
  (hS:S { w with drawn:=w.drawn+1 }) (hR:pC P Q .any ops S V a0 ops.toList 0)
  (hF:∀ (vals:Nat→Value) (w:World),S w→(∀ i,i<ops.size→V i (vals i) w)→Q .normal (fill (fun _=>true) vals ops.toList 0 a0) w):(Code.region id ops true).wp P Q a0 w:=by
 have rep:∀ j,(Array.replicate ops.size false).getD j false=false:=fun j=>by
  rw [Array.getD_eq_getD_getElem?,Array.getElem?_replicate]
  split <;> rfl
 refine wp_region_any hm (ue hok hR hF _ _ _ _ ?_ ⟨by simp,hS,?_,fun _=>undef,?_,?_⟩)
 ·have:∀ (l:Nat→Bool) n,left l n≤n:=fun l n=>by
   induction n with
   | zero=>exact yN _
   | succ n ih=>unfold left;split <;> omega
  exact this _ _
 ·intro i o hi hl
  rw [rep] at hl;cases hl
 ·have:∀ (v:Nat→Value) (os:List Oper) (k:Nat) (a:Act),fill (fun _=>false) v os k a=a:=fun v os=>by
   induction os with
   | nil=>intro k a;rfl
   | cons x os ih=>intro k a;unfold fill;simp [ih]
  refine (this _ ops.toList 0 a0).symm.trans (cH _ _ _ (fun j _ hj=>(rep j).symm) (fun _ _ _=>rfl))
 intro i hi hl;rw [rep] at hl;cases hl
end Rg
end
section
open Go Go.RowKit
namespace Rg
inductive Val where
 | is (v:Value)
 | lit (xs:List Int)
 | num (p:Int→Prop)
 | such (p:Value→Prop)
 | at (p:Value→World→Prop)
 | new (B:Nat) (T:TypeId) (xs:Array Value)
def xZ (v:Value) (xs:List Int) (w:World):Prop:=∃ b,v=.slice (some ⟨b,0,none⟩) xs.length xs.length∧b<w.heap.size∧∀ (j:Nat) (x:Int),xs[j]?=some x→w.cell? ⟨b,j,none⟩=some (.int .i64 x)
def Val.ok:Val→Value→World→Prop
 | .is x,v,_=>v=x
 | .lit xs,v,w=>xZ v xs w
 | .num p,v,_=>∃ x,v=.int .i64 x∧p x
 | .such p,v,_=>p v
 | .at p,v,w=>∀ w',Below w.heap.size w w'→p v w'
 | .new B T xs,v,w=>∃ g,B≤g∧v=.pointer (some ⟨g,0,none⟩)∧w.heap[g]?=some (.cells xs T (0,0))
theorem Val.keep {w w':World} (hb:Below w.heap.size w w'):∀ (T:Val) (v:Value),T.ok v w→T.ok v w'
 | .is _,_,h=>h
 | .lit xs,_,⟨b,h1,h2,h3⟩=>⟨b,h1,Nat.lt_of_lt_of_le h2 hb.size,fun j x hx=>(hb.cell (p:=⟨b,j,none⟩) h2).trans (h3 j x hx)⟩
 | .num _,_,h=>h
 | .such _,_,h=>h
 | .at _,_,h=>fun w'' h2=>h w'' (i_ hb h2)
 | .new _ _ _,_,⟨g,hB,e,h⟩=>⟨g,hB,e,(hb.block g (Array.getElem?_eq_some_iff.1 h).1).trans h⟩
def AJ (T:List Val) (i:Nat):Val:=T.getD i (.is undef)
variable {P:Program} {Q:Exit→Act→World→Prop}
def qm (ops:Array Oper) (a0:Act) (T:List Val) (o:Oper) (a:Act) (w:World) (t:Nat):Prop:=
 match o.after.toList.find? (fun e=>Region.binds .any e && ((ops[e.on]?).bind (·.dst)) == some t) with
 | some e=>∃ v,a.tmps[t]?=some v∧(AJ T e.on).ok v w
 | none=>a.tmps[t]?=a0.tmps[t]?
def Does (P:Program) (ops:Array Oper) (Q:Exit→Act→World→Prop) (V:Val) (o:Oper) (a:Act) (w:World):Prop:=
 if Region.wanted o (yielded ops a.tmps)=true then o.wp P a w (fun a' w'=>∃ v,a'=a.put o.dst v∧V.ok v w'∧Below w.heap.size w w') Q else V.ok undef w
theorem ev {a:Act} {t:Nat} {v:Value} (h:a.tmps[t]?=some v):a.eval (.tmp t)=v:=by
 show a.tmps.getD t undef=v
 rw [Array.getD_eq_getD_getElem?,h];rfl
theorem a_ {a:Act} {t:Nat} {x:Value} {w:World} (h:∃ v,a.tmps[t]?=some v∧(Val.is x).ok v w):a.tmps[t]?=some x:=by
 obtain ⟨v,h1,rfl⟩:=h;exact h1
theorem aG {ops:Array Oper} {o:Oper} {a:Act} {w:World} {x:Value} (hw:Region.wanted o (yielded ops a.tmps)=true) (h:(execOp a.eval o).run P w=.ok (.value x) w):Does P ops Q (.is x) o a w:=by
 unfold Does;rw [if_pos hw];unfold Oper.wp;rw [h];exact ⟨x,rfl,rfl,yM _ _⟩
theorem bI {ops:Array Oper} {o:Oper} {a:Act} {w:World} (hw:Region.wanted o (yielded ops a.tmps)=false):Does P ops Q (.is undef) o a w:=by
 unfold Does;rw [if_neg (by rw [hw];exact Bool.false_ne_true)];exact rfl
theorem yZ {ops:Array Oper} {a:Act} {j t:Nat} {b:Bool} (h1:(ops[j]?).bind (·.dst)=some t) (h2:a.tmps[t]?=some (.bool b)):yielded ops a.tmps j=some b:=by
 unfold yielded;rw [h1]
 show (match a.tmps[t]? with | some (.bool b)=>some b | _=>none)=some b
 rw [h2]
theorem aU {o:Oper} {y:Nat→Option Bool} {j:Nat} {b:Bool} (hg:o.guard=some (j,b)) (hy:y j=some b):Region.wanted o y=true:=by
 unfold Region.wanted;rw [hg]
 show (y j == some b)=true
 rw [hy]
 cases b <;> rfl
theorem ae {o:Oper} {y:Nat→Option Bool} {j:Nat} {b:Bool} (hg:o.guard=some (j,!b)) (hy:y j=some b):Region.wanted o y=false:=by
 unfold Region.wanted;rw [hg]
 show (y j == some (!b))=false
 rw [hy]
 cases b <;> rfl
theorem wr {x:Int} (h1:-9223372036854775808≤x) (h2:x≤9223372036854775807):IntKind.i64.wrap x=x:=by rw [IntKind.wrap_i64];omega
theorem kr {ops:Array Oper} {o:Oper} {a:Act} {w:World} {x:Value} {V:Val} {ob:Obj} (hw:Region.wanted o (yielded ops a.tmps)=true) (h:(execOp a.eval o).run P w=.ok (.value x) (w.alloc ob)) (hV:V.ok x (w.alloc ob)):Does P ops Q V o a w:=by
 unfold Does;rw [if_pos hw];unfold Oper.wp;rw [h];exact ⟨x,rfl,hV,(yM _ _).alloc (yN _) ob⟩
theorem aY {ops:Array Oper} {o:Oper} {a:Act} {w:World} {V:Val} {f:FuncId} {args:Array Value} (hw:Region.wanted o (yielded ops a.tmps)=true) (h:(execOp a.eval o).run P w=.ok (.enter f args) w)
  (hc:Calls P f args w fun e w'=>∃ v,e=.returned v∧V.ok v w'∧Below w.heap.size w w'):Does P ops Q V o a w:=by
 unfold Does;rw [if_pos hw];unfold Oper.wp;rw [h];refine Calls.mono hc ?_;rintro e w' ⟨v,rfl,h1,h2⟩;exact ⟨v,rfl,h1,h2⟩
theorem bU {ops:Array Oper} {o:Oper} {a:Act} {w:World} {v:Value} {f:FuncId} {args:Array Value} (hw:Region.wanted o (yielded ops a.tmps)=true) (h:(execOp a.eval o).run P w=.ok (.enter f args) w)
  (hc:Calls P f args w fun e w'=>e=.returned v∧Below w.heap.size w w'):Does P ops Q (.is v) o a w:=
 aY hw h (hc.mono fun _ _ ⟨e,b⟩=>⟨v,e,rfl,b⟩)
theorem ef (a:Act):∀ f,a.eval (.func f)=.func (.func f) #[] #[]:=fun _=>rfl
theorem ec (a:Act):∀ v,a.eval (.const v)=v:=fun _=>rfl
theorem wo {x:Int} (h:-9223372036854775808≤x∧x≤9223372036854775807):IntKind.i64.wrap x=x:=wr h.1 h.2
end Rg
end
end Go.Proofs.YtgfkcoablfjbcaaGreat
