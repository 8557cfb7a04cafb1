/-
  Joined texts: contracts and plain lemmas.
-/
import Derived.Test.YtgfkcoablfjbcaaGreatV1
import Derived.Test.YtgfkcoablfjbcaaGreatV17
import Derived.Test.YtgfkcoablfjbcaaGreatRows
import Derived.WalkKit
import Derived.ProofKit
import Derived.OpenShut
import Derived.Lib.SmallJoins
import Derived.Below
import Derived.Carry
import Derived.Test.YtgfkcoablfjbcaaGreatV16
import Derived.Deep.Slices
set_option linter.unusedSimpArgs false
set_option linter.unusedVariables false
set_option maxRecDepth 100000
set_option maxHeartbeats 8000000
namespace Go.Proofs.YtgfkcoablfjbcaaGreat
section
open Go.RowKit Go.Shelf
theorem zNo {k:Bool} (h:k=false) (a b n d:Int) (L:List Pt) (w:World) (base:Nat):(Value.tuple #[.agg #[.int .i64 0,.int .i64 0,.slice none 0 0,.int .i64 0,.int .i64 0],.bool false])=.tuple #[.agg #[.int .i64 (M.pick k a),.int .i64 (M.pick k b),.slice none 0 0,.int .i64 (M.pick k n),.int .i64 (M.pick k d)],.bool k]∧Rw.Own yY w base (.slice none 0 0) (if k=true then L else []):=by
 subst h;exact ⟨rfl,Rw.Own.nil yY _ _⟩
theorem N8 {k:Bool} (h:k=false) (a b n d:Int) (L:List Pt):(Value.tuple #[.agg #[.int .i64 0,.int .i64 0,.slice none 0 0,.int .i64 0,.int .i64 0],.bool false])=.tuple #[.agg #[.int .i64 (M.pick k a),.int .i64 (M.pick k b),.slice none 0 0,.int .i64 (M.pick k n),.int .i64 (M.pick k d)],.bool k]∧(if k=true then L else [])=[]:=by
 subst h;exact ⟨rfl,rfl⟩
theorem fF (a b n d:Int) (p:Pt) (v:Value) (l:List Pt) (w:World) (hx:dN w v l) (hn:l.length≤4000000) :
  Calls Tryz.prog 29 #[.agg #[.int .i64 a,.int .i64 b,v,.int .i64 n,.int .i64 d],.agg #[.int .i64 p.1,.int .i64 p.2.1,.int .i64 p.2.2]] w fun e w'=>∃ v',e=.returned (.tuple #[.agg #[.int .i64 (M.pick (M.dr (M.dE a b l n d) a b (l ++ [p])) a),.int .i64 (M.pick (M.dr (M.dE a b l n d) a b (l ++ [p])) b),v',.int .i64 (M.pick (M.dr (M.dE a b l n d) a b (l ++ [p])) (M.Bk a b (l ++ [p]))),.int .i64 (M.pick (M.dr (M.dE a b l n d) a b (l ++ [p])) (M.Bj a b (l ++ [p])))],.bool (M.dr (M.dE a b l n d) a b (l ++ [p]))])∧Rw.Own yY w' w.heap.size v' (if M.dr (M.dE a b l n d) a b (l ++ [p])=true then l ++ [p] else [])∧Below w.heap.size w w':=by
 obtain ⟨sa,cap,rfl⟩:=Av hx;obtain ⟨wc,hw3,C,Q,R,B⟩:=kj w #[.int .i64 a,.int .i64 b,.slice sa l.length cap,.int .i64 n,.int .i64 d] 47 #[.int .i64 p.1,.int .i64 p.2.1,.int .i64 p.2.2] 57 #[.int .i64 0,.int .i64 0,.slice none 0 0,.int .i64 0,.int .i64 0] 47;have hxc:=yJ (hx.below B);have Hx:=yJ hx;have ⟨c0,c1,c2,c3,c4⟩:=C.bD;have hzz:w.heap.size+1+1<wc.heap.size:=R.lt
 have CI:=fun W (C:aH W w.heap.size 47 #[.int .i64 a,.int .i64 b,.slice sa l.length cap,.int .i64 n,.int .i64 d]) h=>jD a b n d (.slice sa l.length cap) l w.heap.size W C h hn
 clear hx
 cases hc:M.dE a b l n d with
 | false=>
  have hfin:=yJ fun W=>zNo (M.qk (g:=false) (a:=a) (b:=b) (l:=l ++ [p]) rfl) a b (M.Bk a b (l ++ [p])) (M.Bj a b (l ++ [p])) (l ++ [p]) W w.heap.size
  rw [hc] at CI;replace CI:=yJ CI;clear hc;generalize hq:M.dr false a b (l ++ [p])=ok at *;obtain rfl:ok=false:=hq.symm.trans (M.qk rfl);clear hq;generalize M.Bj a b (l ++ [p])=m2,M.Bk a b (l ++ [p])=m1 at *;go_enter Tryz.func29,Tryz.ntmps29
  go_wp2_with (go_at_call 41;(refine (CI.out _ C hxc.out).mono ?_);rintro e w4 ⟨rfl,hb4⟩;have Au:=hb4.size;replace B:=i_ B hb4;replace C:=C.keep hb4;replace Q:=Q.keep hb4;replace R:=R.keep hb4;have hxd:=yJ (hxc.out.below hb4);(have ⟨c0,c1,c2,c3,c4⟩:=C.bD);(have ⟨r0,r1,r2,r3,r4⟩:=R.bD);(have ⟨r5,r6,r7,r8,r9,_⟩:=R.eU))
  exact bodyPost_ret (v:=.tuple #[.agg #[.int .i64 0,.int .i64 0,.slice none 0 0,.int .i64 0,.int .i64 0],.bool false]) (by simp [results,Tryz.results29,go_sem, *]) rfl (⟨.slice none 0 0,by rw [(hfin.out w).1],(hfin.out _).2,yL (yL (yL (yL (yL B (by simp <;> omega) _) (by simp <;> omega) _) (by simp <;> omega) _) (by simp <;> omega) _) (by simp <;> omega) _⟩)
 | true=>
 rw [M.ug rfl];rw [hc] at CI;have hl4:l.length≤4:=(M.dq (M.qA hc).1).2.2.1
 have hlen:(l ++ [p]).length≤5:=by rw [List.length_append,List.length_singleton];omega
 have CL:=yJ (fun w (h:dN w (.slice sa l.length cap) l)=>jw l (.slice sa l.length cap) w h (by omega))
 have PL:=fun v W (h:dN W v (l ++ [p]))=>iy a b v (l ++ [p]) W h (by omega)
 have MK:=fun (hp:M.cJ a b (l ++ [p])=true) v W (h:dN W v (l ++ [p]))=>(M.tw hp).symm ▸ iD a b v (l ++ [p]) W h (M.dq hp).1 (M.dq hp).2.1 (M.dq hp).2.2.1 (M.dq hp).2.2.2
 have h0:=fun (h:M.cJ a b (l ++ [p])=false)=>N8 (M.tv h) a b (M.Bk a b (l ++ [p])) (M.Bj a b (l ++ [p])) (l ++ [p])
 generalize M.ck a b (l ++ [p])=ok,(if M.ck a b (l ++ [p])=true then l ++ [p] else [])=L,M.pick (M.ck a b (l ++ [p])) (M.Bj a b (l ++ [p]))=x4,M.pick (M.ck a b (l ++ [p])) (M.Bk a b (l ++ [p]))=x3,M.pick (M.ck a b (l ++ [p])) b=x2,M.pick (M.ck a b (l ++ [p])) a=x1 at *;replace CI:=yJ CI;replace MK:=yJ MK;replace h0:=yJ h0;clear hc hn hlen;go_enter Tryz.func29,Tryz.ntmps29
 go_upto_region 3 with (go_at_call 41;(refine (CI.out _ C hxc.out).mono ?_);rintro e w4 ⟨rfl,hb4⟩;have Au:=hb4.size;replace B:=i_ B hb4;replace C:=C.keep hb4;replace Q:=Q.keep hb4;replace R:=R.keep hb4;have hxd:=yJ (hxc.out.below hb4);(have ⟨c0,c1,c2,c3,c4⟩:=C.bD))
 refine Rg.ov (fun l_ v_ W=>Bl w4 l p l_ v_ W) [2,4,5,6] [.pointer (some ⟨w.heap.size,2,none⟩),.slice sa l.length cap,undef,.agg #[.int .i64 p.1,.int .i64 p.2.1,.int .i64 p.2.2],undef,undef,undef] (by kernel_rfl) (by kernel_rfl) (by decide) (fun l1 l2 v1 v2 W h j=>Bl.congr h j) (fun _=>Bl.start) ⟨?_,?_,?_,?_,?_,?_,?_,trivial⟩ ?_
 ·unfold Rg.ah
  intro zZ w_ l_ f_ hJ zA zB yp zH hr;refine ⟨rfl,?_⟩;rw [if_neg (by decide)];have e2:zZ.tmps[2]?=some (.pointer (some ⟨w.heap.size,0,none⟩)):=hr 2 (by decide)
  (first | (go_simp;done) | (go_simp;exact Rg.wr (by omega) (by omega)) | (go_simp;omega) | (go_simp;rfl))
 ·unfold Rg.ah
  intro zZ w_ l_ f_ hJ zA zB yp zH hr;refine ⟨rfl,?_⟩;rw [if_neg (by decide)];have e10:zZ.tmps[10]?=some (.pointer (some ⟨w.heap.size,2,none⟩)):=hr 10 (by decide);have hs_:=C.keep hJ.B;have ⟨k0,k1,k2,k3,k4⟩:=hs_.bD
  (first | (go_simp;done) | (go_simp;exact Rg.wr (by omega) (by omega)) | (go_simp;omega) | (go_simp;rfl))
 ·unfold Rg.ah
  intro zZ w_ l_ f_ hJ zA zB yp zH hr;have e11:zZ.tmps[11]?=some (.slice sa l.length cap):=hr 11 (by decide)
  have ef:∀ f,zZ.eval (.func f)=.func (.func f) #[] #[]:=fun _=>rfl
  refine ⟨rfl,?_⟩;rw [if_pos (by decide)];refine Rg.eh (by go_simp;exact ⟨rfl,rfl⟩) ?_;refine (CL.out _ (hxd.out.below hJ.B)).mono ?_;rintro e CW ⟨u_,rfl,yt,zj⟩;exact ⟨u_,rfl,hJ.clone zj yt⟩
 ·unfold Rg.ah
  intro zZ w_ l_ f_ hJ zA zB yp zH hr;refine ⟨rfl,?_⟩;rw [if_neg (by decide)];have e3:zZ.tmps[3]?=some (.pointer (some ⟨w.heap.size+1,0,none⟩)):=hr 3 (by decide);have hs_:=Q.keep hJ.B;have ⟨k0,k1,k2⟩:=hs_.aQ
  (first | (go_simp;done) | (go_simp;exact Rg.wr (by omega) (by omega)) | (go_simp;omega) | (go_simp;rfl))
 ·unfold Rg.ah
  intro zZ w_ l_ f_ hJ zA zB yp zH hr;have e13:zZ.tmps[13]?=some (.agg #[.int .i64 p.1,.int .i64 p.2.1,.int .i64 p.2.2]):=hr 13 (by decide);refine ⟨rfl,?_⟩;rw [if_pos (by decide)];refine Rg.kL (x:=.slice (some ⟨w_.heap.size,0,none⟩) 1 1) (ob:=.cells #[.int .i64 p.1,.int .i64 p.2.1,.int .i64 p.2.2] 57) (by (first | (go_simp;done) | (go_simp;exact Rg.wr (by omega) (by omega)) | (go_simp;omega) | (go_simp;rfl))) ?_;exact hJ.lit
 ·unfold Rg.ah
  intro zZ w_ l_ f_ hJ zA zB yp zH hr;have e12:zZ.tmps[12]?=some (f_ 2):=hr 12 (by decide);have e14:zZ.tmps[14]?=some (f_ 4):=hr 14 (by decide);refine ⟨rfl,?_⟩;rw [if_pos (by decide)];obtain ⟨H_,Co,F3,GB⟩:=hJ.t (yp 4 (by kernel_rfl)) zA;rw [Co] at e14;have F8:=hJ.c (yp 2 (by kernel_rfl)) zA;obtain ⟨v_,CW,CT,Cb,Cx,-⟩:=Rw.ij j8 31 [p] ⟨H_,0,none⟩ 1 GB F8 hJ.B.size (by simp only [List.length_singleton];omega);refine Rg.ep (x:=v_) (w2:=CW) (Rg.eW rfl (Rg.ev e12) (Rg.ev e14) CT) ?_;exact hJ.app (yp 2 (by kernel_rfl)) zA (zB 6 (by kernel_rfl)) Cx Cb
 ·unfold Rg.ah
  intro zZ w_ l_ f_ hJ zA zB yp zH hr;have e15:zZ.tmps[15]?=some (f_ 5):=hr 15 (by decide);refine ⟨rfl,?_⟩;rw [if_pos (by decide)];refine Rg.ep (x:=f_ 5) (w2:=w_) (by (first | (go_simp;done) | (go_simp;exact Rg.wr (by omega) (by omega)) | (go_simp;omega) | (go_simp;rfl))) ?_;exact hJ.take (yp 5 (by kernel_rfl))
 intro vals wz hJ hv;simp only [Rg.ak,Rg.fill,Act.put,Nat.reduceAdd];clear hv;have hm:=hJ.m rfl;obtain ⟨A6,c6,e6⟩:=Av hm.seen.pts;rw [e6] at hm ⊢
 have HC:(l ++ [p]).length=l.length+1:=by simp
 rw [HC] at hm ⊢;have hms:=yJ (show dN wz (.slice A6 (l.length+1) c6) (l ++ [p]) from hm.seen.pts);have Bz:=hJ.B;replace C:=C.keep Bz;replace R:=R.keep Bz;replace B:=i_ B Bz;clear c0 c1 c2 c3 c4 hm hJ e6 HC Q CL;have ⟨c0,c1,c2,c3,c4⟩:=C.bD
 cases hp:M.cJ a b (l ++ [p]) with
 | false=>
  have hfin:=yJ (h0.out hp);rw [hp] at PL;replace PL:=yJ PL;clear h0 MK hp
  go_wp2_with (go_at_call 34;(refine (PL.out _ _ hms.out).mono ?_);rintro e w6 ⟨rfl,hb6⟩;replace B:=i_ B hb6;replace C:=C.keep hb6;replace R:=R.keep hb6;have hmt:=yJ (hms.out.below hb6);have hzB:=B.size;(have ⟨c0,c1,c2,c3,c4⟩:=C.bD);(have ⟨r0,r1,r2,r3,r4⟩:=R.bD);(have ⟨r5,r6,r7,r8,r9,_⟩:=R.eU))
  exact bodyPost_ret (v:=.tuple #[.agg #[.int .i64 0,.int .i64 0,.slice none 0 0,.int .i64 0,.int .i64 0],.bool false]) (by simp [results,Tryz.results29,go_sem, *]) rfl (⟨.slice none 0 0,by rw [hfin.out.1],by rw [hfin.out.2];exact Rw.Own.nil yY _ _,yL (yL (yL (yL (yL B (by simp <;> omega) _) (by simp <;> omega) _) (by simp <;> omega) _) (by simp <;> omega) _) (by simp <;> omega) _⟩)
 | true=>
 rw [hp] at PL;replace PL:=yJ PL;replace MK:=yJ (MK.out hp);clear h0 hp
 go_wp2_with first | (go_at_call 34;(refine (PL.out _ _ hms.out).mono ?_);rintro e w6 ⟨rfl,hb6⟩;replace B:=i_ B hb6;replace C:=C.keep hb6;replace R:=R.keep hb6;have hmt:=yJ (hms.out.below hb6);have hzB:=B.size;(have ⟨c0,c1,c2,c3,c4⟩:=C.bD)) | (go_at_call 45;(refine (MK.out _ _ hmt.out).mono ?_);rintro e w7 ⟨v7,rfl,o7,yh⟩;obtain ⟨A7,c7,rfl⟩:=Av o7.seen.pts;have hlr:=R.lt;replace B:=i_ B yh;replace R:=R.keep yh;replace o7:=yJ o7;(have ⟨r0,r1,r2,r3,r4⟩:=R.bD);(have ⟨r5,r6,r7,r8,r9,_⟩:=R.eU))
 exact bodyPost_ret (v:=.tuple #[.agg #[.int .i64 x1,.int .i64 x2,.slice A7 L.length c7,.int .i64 x3,.int .i64 x4],.bool ok]) (by simp [results,Tryz.results29,go_sem, *]) rfl (⟨_,rfl,(o7.out.uG (Nat.lt_of_lt_of_le hlr (yN _)) _ _ _ _ _).down (by omega),yL (yL (yL (yL (yL B (by simp <;> omega) _) (by simp <;> omega) _) (by simp <;> omega) _) (by simp <;> omega) _) (by simp <;> omega) _⟩)
theorem fJ (a b n d:Int) (p:Pt) (v:Value) (l:List Pt) (w:World) (hx:dN w v l) (hn:l.length≤4000000) :
  Calls Tryz.prog 27 #[.agg #[.int .i64 a,.int .i64 b,v,.int .i64 n,.int .i64 d],.agg #[.int .i64 p.1,.int .i64 p.2.1,.int .i64 p.2.2]] w fun e w'=>∃ v',e=.returned (.tuple #[.agg #[.int .i64 (M.pick (M.dr (M.dE a b l n d) a b (l ++ [p])) a),.int .i64 (M.pick (M.dr (M.dE a b l n d) a b (l ++ [p])) b),v',.int .i64 (M.pick (M.dr (M.dE a b l n d) a b (l ++ [p])) (M.Bk a b (l ++ [p]))),.int .i64 (M.pick (M.dr (M.dE a b l n d) a b (l ++ [p])) (M.Bj a b (l ++ [p])))],.bool (M.dr (M.dE a b l n d) a b (l ++ [p]))])∧Rw.Own yY w' w.heap.size v' (if M.dr (M.dE a b l n d) a b (l ++ [p])=true then l ++ [p] else [])∧Below w.heap.size w w':=by
 obtain ⟨sa,cap,rfl⟩:=Av hx;obtain ⟨wc,hw3,C,Q,R,B⟩:=kj w #[.int .i64 a,.int .i64 b,.slice sa l.length cap,.int .i64 n,.int .i64 d] 47 #[.int .i64 p.1,.int .i64 p.2.1,.int .i64 p.2.2] 57 #[.int .i64 0,.int .i64 0,.slice none 0 0,.int .i64 0,.int .i64 0] 47;have hxc:=yJ (hx.below B);have Hx:=yJ hx;have ⟨c0,c1,c2,c3,c4⟩:=C.bD;have hzz:w.heap.size+1+1<wc.heap.size:=R.lt
 have CI:=fun W h=>tV a b n d (.slice sa l.length cap) l W h hn
 clear hx
 cases hc:M.dE a b l n d with
 | false=>
  have hfin:=yJ fun W=>zNo (M.qk (g:=false) (a:=a) (b:=b) (l:=l ++ [p]) rfl) a b (M.Bk a b (l ++ [p])) (M.Bj a b (l ++ [p])) (l ++ [p]) W w.heap.size
  rw [hc] at CI;replace CI:=yJ CI;clear hc;generalize hq:M.dr false a b (l ++ [p])=ok at *;obtain rfl:ok=false:=hq.symm.trans (M.qk rfl);clear hq;generalize M.Bj a b (l ++ [p])=m2,M.Bk a b (l ++ [p])=m1 at *;go_enter Tryz.func27,Tryz.ntmps27
  go_wp2_with (go_at_call 38;(refine (CI.out _ hxc.out).mono ?_);rintro e w4 ⟨rfl,hb4⟩;have Au:=hb4.size;replace B:=i_ B hb4;replace C:=C.keep hb4;replace Q:=Q.keep hb4;replace R:=R.keep hb4;have hxd:=yJ (hxc.out.below hb4);(have ⟨c0,c1,c2,c3,c4⟩:=C.bD);(have ⟨r0,r1,r2,r3,r4⟩:=R.bD);(have ⟨r5,r6,r7,r8,r9,_⟩:=R.eU))
  exact bodyPost_ret (v:=.tuple #[.agg #[.int .i64 0,.int .i64 0,.slice none 0 0,.int .i64 0,.int .i64 0],.bool false]) (by simp [results,Tryz.results27,go_sem, *]) rfl (⟨.slice none 0 0,by rw [(hfin.out w).1],(hfin.out _).2,yL (yL (yL (yL (yL B (by simp <;> omega) _) (by simp <;> omega) _) (by simp <;> omega) _) (by simp <;> omega) _) (by simp <;> omega) _⟩)
 | true=>
 rw [M.ug rfl];rw [hc] at CI;have hl4:l.length≤4:=(M.dq (M.qA hc).1).2.2.1
 have hlen:(l ++ [p]).length≤5:=by rw [List.length_append,List.length_singleton];omega
 have IM:=fun v W (h:dN W v (l ++ [p]))=>tW a b v (l ++ [p]) W h (by omega)
 have hf:=yJ (show ∀ W,Below w.heap.size w W→Rw.From yY W sa l by
  obtain ⟨A8,Ei,e8,h8⟩:=Hx.out.from'
  injection e8 with q1 q2 q3
  subst q1
  exact h8)
 replace CI:=yJ CI;clear hc hn hlen;generalize M.ck a b (l ++ [p])=ok,(if M.ck a b (l ++ [p])=true then l ++ [p] else [])=L,M.pick (M.ck a b (l ++ [p])) (M.Bj a b (l ++ [p]))=x4,M.pick (M.ck a b (l ++ [p])) (M.Bk a b (l ++ [p]))=x3,M.pick (M.ck a b (l ++ [p])) b=x2,M.pick (M.ck a b (l ++ [p])) a=x1 at *;replace IM:=yJ IM;go_enter Tryz.func27,Tryz.ntmps27
 go_upto_region 3 with (go_at_call 38;(refine (CI.out _ hxc.out).mono ?_);rintro e w4 ⟨rfl,hb4⟩;have Au:=hb4.size;replace B:=i_ B hb4;replace C:=C.keep hb4;replace Q:=Q.keep hb4;replace R:=R.keep hb4;have hxd:=yJ (hxc.out.below hb4);(have ⟨c0,c1,c2,c3,c4⟩:=C.bD);have J0:=yJ (DB.mk B C Q R (by omega) (by omega) (by omega) (show w.heap.size<w4.heap.size by omega) (by omega) (by omega) (yN _)))
 refine Rg.ov (fun l_ v_ W=>Aq w w.heap.size (w.heap.size+1) (w.heap.size+1+1) w4.heap.size 47 #[.int .i64 a,.int .i64 b,.slice sa l.length cap,.int .i64 n,.int .i64 d] 57 #[.int .i64 p.1,.int .i64 p.2.1,.int .i64 p.2.2] l p x1 x2 x3 x4 ok L l_ v_ W) [2,5,7,8,9,10,12] [.pointer (some ⟨w.heap.size,0,none⟩),.agg #[.int .i64 a,.int .i64 b],undef,.pointer (some ⟨w.heap.size,2,none⟩),.slice sa l.length cap,undef,.agg #[.int .i64 p.1,.int .i64 p.2.1,.int .i64 p.2.2],undef,undef,undef,undef,.bool ok,undef,.bool ok] (by kernel_rfl) (by kernel_rfl) (by decide) (fun l1 l2 v1 v2 W h j=>Aq.congr h j) (fun _=>Aq.start (J0.out.keep (yM _ _).drew)) ⟨?_,?_,?_,?_,?_,?_,?_,?_,?_,?_,?_,?_,?_,?_,trivial⟩ ?_
 ·unfold Rg.ah
  intro zZ w_ l_ f_ hJ zA zB yp zH hr;refine ⟨rfl,?_⟩;rw [if_neg (by decide)];have e2:zZ.tmps[2]?=some (.pointer (some ⟨w.heap.size,0,none⟩)):=hr 2 (by decide)
  (first | (go_simp;done) | (go_simp;exact Rg.wr (by omega) (by omega)) | (go_simp;omega) | (go_simp;rfl))
 ·unfold Rg.ah
  intro zZ w_ l_ f_ hJ zA zB yp zH hr;refine ⟨rfl,?_⟩;rw [if_neg (by decide)];have e10:zZ.tmps[10]?=some (.pointer (some ⟨w.heap.size,0,none⟩)):=hr 10 (by decide);obtain ⟨Fa,hs_⟩:=hJ.S;have ⟨k0,k1,k2,k3,k4⟩:=hs_.C.bD
  (first | (go_simp;done) | (go_simp;exact Rg.wr (by omega) (by omega)) | (go_simp;omega) | (go_simp;rfl))
 ·unfold Rg.ah
  intro zZ w_ l_ f_ hJ zA zB yp zH hr;refine ⟨rfl,?_⟩;rw [if_pos (by decide)];refine Rg.kL (x:=.slice (some ⟨w_.heap.size,0,none⟩) 0 0) (ob:=.cells #[] 57) (by (first | (go_simp;done) | (go_simp;exact Rg.wr (by omega) (by omega)) | (go_simp;omega) | (go_simp;rfl))) ?_;exact hJ.empty (zB 5 (by kernel_rfl))
 ·unfold Rg.ah
  intro zZ w_ l_ f_ hJ zA zB yp zH hr;refine ⟨rfl,?_⟩;rw [if_neg (by decide)];have e2:zZ.tmps[2]?=some (.pointer (some ⟨w.heap.size,0,none⟩)):=hr 2 (by decide)
  (first | (go_simp;done) | (go_simp;exact Rg.wr (by omega) (by omega)) | (go_simp;omega) | (go_simp;rfl))
 ·unfold Rg.ah
  intro zZ w_ l_ f_ hJ zA zB yp zH hr;refine ⟨rfl,?_⟩;rw [if_neg (by decide)];have e13:zZ.tmps[13]?=some (.pointer (some ⟨w.heap.size,2,none⟩)):=hr 13 (by decide);obtain ⟨Fa,hs_⟩:=hJ.S;have ⟨k0,k1,k2,k3,k4⟩:=hs_.C.bD
  (first | (go_simp;done) | (go_simp;exact Rg.wr (by omega) (by omega)) | (go_simp;omega) | (go_simp;rfl))
 ·unfold Rg.ah
  intro zZ w_ l_ f_ hJ zA zB yp zH hr;have e12:zZ.tmps[12]?=some (f_ 2):=hr 12 (by decide);have e14:zZ.tmps[14]?=some (.slice sa l.length cap):=hr 14 (by decide);refine ⟨rfl,?_⟩;rw [if_pos (by decide)]
  have n8_:=(zB 8 (by kernel_rfl))
  have Im:=Rg.nf (zH 8 9 (by kernel_rfl)) n8_;have EC:=Rg.nf (zH 9 10 (by kernel_rfl)) Im;have Gg:=Rg.nf (zH 10 12 (by kernel_rfl)) EC;have he_:=hJ.e (yp 2 (by kernel_rfl)) zA;obtain ⟨Fa,hs_⟩:=hJ.S;obtain ⟨v_,CW,CT,Cb,Cx,Nj⟩:=Rw.lV j8 (W:=w_) (base:=w4.heap.size) 31 l sa cap (hf.out _ hJ.B) he_ (yM _ _) hs_.hb (by simp only [List.length_nil];omega);refine Rg.ep (x:=v_) (w2:=CW) (Rg.eW rfl (Rg.ev e12) (Rg.ev e14) CT) ?_;exact hJ.fill (yp 2 (by kernel_rfl)) zA n8_ Im EC Gg Nj Cb
 ·unfold Rg.ah
  intro zZ w_ l_ f_ hJ zA zB yp zH hr;refine ⟨rfl,?_⟩;rw [if_neg (by decide)];have e3:zZ.tmps[3]?=some (.pointer (some ⟨w.heap.size+1,0,none⟩)):=hr 3 (by decide);obtain ⟨Fa,hs_⟩:=hJ.S;have ⟨k0,k1,k2⟩:=hs_.P.aQ
  (first | (go_simp;done) | (go_simp;exact Rg.wr (by omega) (by omega)) | (go_simp;omega) | (go_simp;rfl))
 ·unfold Rg.ah
  intro zZ w_ l_ f_ hJ zA zB yp zH hr;have e16:zZ.tmps[16]?=some (.agg #[.int .i64 p.1,.int .i64 p.2.1,.int .i64 p.2.2]):=hr 16 (by decide);refine ⟨rfl,?_⟩;rw [if_pos (by decide)];refine Rg.kL (x:=.slice (some ⟨w_.heap.size,0,none⟩) 1 1) (ob:=.cells #[.int .i64 p.1,.int .i64 p.2.1,.int .i64 p.2.2] 57) (by (first | (go_simp;done) | (go_simp;exact Rg.wr (by omega) (by omega)) | (go_simp;omega) | (go_simp;rfl))) ?_;exact hJ.lit
 ·unfold Rg.ah
  intro zZ w_ l_ f_ hJ zA zB yp zH hr;have e15:zZ.tmps[15]?=some (f_ 5):=hr 15 (by decide);have e17:zZ.tmps[17]?=some (f_ 7):=hr 17 (by decide);refine ⟨rfl,?_⟩;rw [if_pos (by decide)]
  have Im:=(zB 9 (by kernel_rfl))
  have EC:=Rg.nf (zH 9 10 (by kernel_rfl)) Im;have Gg:=Rg.nf (zH 10 12 (by kernel_rfl)) EC;obtain ⟨Fa,hs_⟩:=hJ.S;obtain ⟨H_,Co,F3,GB,-⟩:=hJ.t (yp 7 (by kernel_rfl)) zA;rw [Co] at e17;have F8:=hJ.c (yp 5 (by kernel_rfl)) zA;obtain ⟨v_,CW,CT,Cb,Cx,-⟩:=Rw.ij j8 31 [p] ⟨H_,0,none⟩ 1 GB F8 hs_.hb (by simp only [List.length_singleton];omega);refine Rg.ep (x:=v_) (w2:=CW) (Rg.eW rfl (Rg.ev e15) (Rg.ev e17) CT) ?_;exact hJ.app (yp 5 (by kernel_rfl)) zA Im EC Gg Cx Cb
 ·unfold Rg.ah
  intro zZ w_ l_ f_ hJ zA zB yp zH hr;have e11:zZ.tmps[11]?=some (.agg #[.int .i64 a,.int .i64 b]):=hr 11 (by decide);have e18:zZ.tmps[18]?=some (f_ 8):=hr 18 (by decide)
  have ef:∀ f,zZ.eval (.func f)=.func (.func f) #[] #[]:=fun _=>rfl
  refine ⟨rfl,?_⟩;rw [if_pos (by decide)];refine Rg.eh (by go_simp;exact ⟨rfl,rfl⟩) ?_;refine (IM.out _ _ (hJ.a (yp 8 (by kernel_rfl)) zA).seen.pts).mono ?_;rintro e CW ⟨u_,rfl,yt,zj⟩;exact ⟨_,rfl,hJ.res zj yt⟩
 ·unfold Rg.ah
  intro zZ w_ l_ f_ hJ zA zB yp zH hr;have e19:zZ.tmps[19]?=some (f_ 9):=hr 19 (by decide);refine ⟨rfl,?_⟩;rw [if_pos (by decide)];obtain ⟨u_,e_,yt⟩:=hJ.r (yp 9 (by kernel_rfl));rw [e_] at e19;refine Rg.ep (x:=.agg #[.int .i64 x1,.int .i64 x2,u_,.int .i64 x3,.int .i64 x4]) (w2:=w_) (by (first | (go_simp;done) | (go_simp;exact Rg.wr (by omega) (by omega)) | (go_simp;omega) | (go_simp;rfl))) ?_;exact hJ.take yt
 ·unfold Rg.ah
  intro zZ w_ l_ f_ hJ zA zB yp zH hr;refine ⟨rfl,?_⟩;rw [if_neg (by decide)];have e19:zZ.tmps[19]?=some (f_ 9):=hr 19 (by decide);obtain ⟨u_,e_,-⟩:=hJ.r (yp 9 (by kernel_rfl));rw [e_] at e19
  (first | (go_simp;done) | (go_simp;exact Rg.wr (by omega) (by omega)) | (go_simp;omega) | (go_simp;rfl))
 ·unfold Rg.ah
  intro zZ w_ l_ f_ hJ zA zB yp zH hr;have e4:zZ.tmps[4]?=some (.pointer (some ⟨w.heap.size+1+1,0,none⟩)):=hr 4 (by decide);have e20:zZ.tmps[20]?=some (f_ 10):=hr 20 (by decide);refine ⟨rfl,?_⟩;rw [if_pos (by decide)]
  have Ij:=(yp 10 (by kernel_rfl))
  have l9_:=zH 9 10 (by kernel_rfl) Ij;have l8_:=zH 8 9 (by kernel_rfl) l9_;have l5_:=zH 5 8 (by kernel_rfl) l8_;obtain ⟨u_,e_,yt⟩:=hJ.x Ij;obtain ⟨A_,c_,rfl⟩:=Av yt.seen.pts;rw [e_] at e20
  have Dn:=fun y=>hJ.put (y:=y) l5_ l8_ l9_ zA yt
  have MY:=(hJ.R zA).R;have ⟨y0,y1,y2,y3,y4⟩:=MY.bD;have ⟨y5,y6,y7,y8,y9,_⟩:=MY.eU;clear MY hJ e_ yt;unfold Oper.wp
  go_simp
  all_goals first | exact ⟨undef,Dn _⟩ | exact ⟨_,rfl,Dn _⟩ | exact Dn _
 ·unfold Rg.ah
  intro zZ w_ l_ f_ hJ zA zB yp zH hr;refine ⟨rfl,?_⟩;rw [if_neg (by decide)];have e21:zZ.tmps[21]?=some (.bool ok):=hr 21 (by decide)
  (first | (go_simp;done) | (go_simp;exact Rg.wr (by omega) (by omega)) | (go_simp;omega) | (go_simp;rfl))
 intro vals wz hJ hv;have I8:vals 13=.bool ok:=hv 13 (by decide) (by decide);simp only [Rg.ak,Rg.fill,Act.put,Nat.reduceAdd];clear hv;simp only [I8];clear I8;obtain ⟨u,hS,hO⟩:=hJ.s rfl;obtain ⟨A7,c7,rfl⟩:=Av hO.seen.pts;have ⟨r0,r1,r2,r3,r4⟩:=hS.R.bD;have BB:=hS.B;have hO:=yJ (hO.down (base':=w.heap.size) (by omega));clear J0 hS hJ;go_wp2;exact bodyPost_ret (v:=.tuple #[.agg #[.int .i64 x1,.int .i64 x2,.slice A7 L.length c7,.int .i64 x3,.int .i64 x4],.bool ok]) (by simp [results,Tryz.results27,go_sem, *]) rfl (⟨_,rfl,hO.out,BB⟩)
theorem Rw.Own.oI {w:World} {base k:Nat} {T:TypeId} {zs:Array Value} {v:Value} {l:List Pt} (h:Rw.Own yY w base v l) (hv:aH w k T zs) (hT:T≠yY.t) (y1 y2 y3 y4 y5:Value):Rw.Own yY (((((w.setCell ⟨k,0,none⟩ y1).setCell ⟨k,1,none⟩ y2).setCell ⟨k,2,none⟩ y3).setCell ⟨k,3,none⟩ y4).setCell ⟨k,4,none⟩ y5) base v l:=by
 refine h.kept (Gr.set (Gr.set (Gr.set (Gr.set (Gr.set (World.grownBy.refl _ _) _ _) _ _) _ _) _ _) _ _) (r:=some k) fun g hg e=>?_
 injection hg with hg
 subst hg
 rcases h.2 with ⟨rfl,-⟩ | ⟨g',cap,cur,rfl,-,hh,-⟩
 ·simp [Value.ownBlock] at e
 simp only [Value.ownBlock,Option.some.injEq] at e;subst e;unfold aH at hv;rw [hv] at hh
 injection hh with hh
 injection hh with _ h2
 exact hT h2
structure Ag (W0:World) (a b n d:Int) (xs:List Pt) (pv:Value) (x1 x2 x3 x4:Int) (ok:Bool) (V:List Pt) (lc lt lr lm lx ln ls:Bool) (vc vt vr vm vx vn:Value) (W:World):Prop where
 B:Below W0.heap.size W0 W
 c:lc=true→∃ u,vc=.agg #[.int .i64 a,.int .i64 b,u,.int .i64 n,.int .i64 d]∧Rw.Own yY W W0.heap.size u xs
 t:lt=true→vt=pv
 r:lr=true→∃ u,vr=.tuple #[.agg #[.int .i64 x1,.int .i64 x2,u,.int .i64 x3,.int .i64 x4],.bool ok]∧Rw.Own yY W W0.heap.size u V
 m:lm=true→∃ u,vm=.tuple #[.agg #[.int .i64 x1,.int .i64 x2,u,.int .i64 x3,.int .i64 x4],.bool ok]∧Rw.Own yY W W0.heap.size u V
 x:lx=true→∃ u,vx=.agg #[.int .i64 x1,.int .i64 x2,u,.int .i64 x3,.int .i64 x4]∧Rw.Own yY W W0.heap.size u V
 n:ln=true→ls=false→∃ H,vn=.pointer (some ⟨H,0,none⟩)∧W0.heap.size≤H∧aH W H 47 #[.int .i64 0,.int .i64 0,.slice none 0 0,.int .i64 0,.int .i64 0]
 s:ls=true→∃ H u,vn=.pointer (some ⟨H,0,none⟩)∧W0.heap.size≤H∧aH W H 47 #[.int .i64 x1,.int .i64 x2,u,.int .i64 x3,.int .i64 x4]∧Rw.Own yY W W0.heap.size u V
namespace Ag
variable {W0:World} {a b n d:Int} {xs:List Pt} {pv:Value} {x1 x2 x3 x4:Int} {ok:Bool} {V:List Pt} {lc lt lr lm lx ln ls:Bool} {vc vt vr vm vx vn:Value} {W W':World}
theorem start:Ag W0 a b n d xs pv x1 x2 x3 x4 ok V false false false false false false false vc vt vr vm vx vn { W0 with drawn:=W0.drawn+1 } where
 B:=(yM _ _).drew
 c:=fun h=>by cases h
 t:=fun h=>by cases h
 r:=fun h=>by cases h
 m:=fun h=>by cases h
 x:=fun h=>by cases h
 n:=fun h=>by cases h
 s:=fun h=>by cases h
theorem keep (j:Ag W0 a b n d xs pv x1 x2 x3 x4 ok V lc lt lr lm lx ln ls vc vt vr vm vx vn W) (hb:Below W.heap.size W W'):Ag W0 a b n d xs pv x1 x2 x3 x4 ok V lc lt lr lm lx ln ls vc vt vr vm vx vn W' where
 B:=j.B.trans (hb.mono j.B.size)
 c:=fun h=>by
  obtain ⟨u,e,ho⟩:=j.c h;exact ⟨u,e,ho.below hb⟩
 t:=j.t
 r:=fun h=>by
  obtain ⟨u,e,ho⟩:=j.r h;exact ⟨u,e,ho.below hb⟩
 m:=fun h=>by
  obtain ⟨u,e,ho⟩:=j.m h;exact ⟨u,e,ho.below hb⟩
 x:=fun h=>by
  obtain ⟨u,e,ho⟩:=j.x h;exact ⟨u,e,ho.below hb⟩
 n:=fun h h2=>by
  obtain ⟨H,e,hH,ho⟩:=j.n h h2;exact ⟨H,e,hH,ho.keep hb⟩
 s:=fun h=>by
  obtain ⟨H,u,e,hH,ho,hu⟩:=j.s h;exact ⟨H,u,e,hH,ho.keep hb,hu.below hb⟩
theorem cert {u:Value} (j:Ag W0 a b n d xs pv x1 x2 x3 x4 ok V lc lt lr lm lx ln ls vc vt vr vm vx vn W) (hb:Below W.heap.size W W') (hu:Rw.Own yY W' W.heap.size u xs):Ag W0 a b n d xs pv x1 x2 x3 x4 ok V true lt lr lm lx ln ls (.agg #[.int .i64 a,.int .i64 b,u,.int .i64 n,.int .i64 d]) vt vr vm vx vn W':=
 { j.keep hb with c:=fun _=>⟨u,rfl,hu.down j.B.size⟩ }
theorem point (j:Ag W0 a b n d xs pv x1 x2 x3 x4 ok V lc lt lr lm lx ln ls vc vt vr vm vx vn W) (hb:Below W.heap.size W W'):Ag W0 a b n d xs pv x1 x2 x3 x4 ok V lc true lr lm lx ln ls vc pv vr vm vx vn W':=
 { j.keep hb with t:=fun _=>rfl }
theorem call {u:Value} (j:Ag W0 a b n d xs pv x1 x2 x3 x4 ok V lc lt lr lm lx ln ls vc vt vr vm vx vn W) (hb:Below W.heap.size W W') (hu:Rw.Own yY W' W.heap.size u V):Ag W0 a b n d xs pv x1 x2 x3 x4 ok V lc lt true lm lx ln ls vc vt (.tuple #[.agg #[.int .i64 x1,.int .i64 x2,u,.int .i64 x3,.int .i64 x4],.bool ok]) vm vx vn W':=
 { j.keep hb with r:=fun _=>⟨u,rfl,hu.down j.B.size⟩ }
theorem move (j:Ag W0 a b n d xs pv x1 x2 x3 x4 ok V lc lt lr lm lx ln ls vc vt vr vm vx vn W) (h:lr=true):Ag W0 a b n d xs pv x1 x2 x3 x4 ok V lc lt lr true lx ln ls vc vt vr vr vx vn W:=
 { j with m:=fun _=>j.r h }
theorem ext {u:Value} (j:Ag W0 a b n d xs pv x1 x2 x3 x4 ok V lc lt lr lm lx ln ls vc vt vr vm vx vn W) (hu:Rw.Own yY W W0.heap.size u V):Ag W0 a b n d xs pv x1 x2 x3 x4 ok V lc lt lr lm true ln ls vc vt vr vm (.agg #[.int .i64 x1,.int .i64 x2,u,.int .i64 x3,.int .i64 x4]) vn W:=
 { j with x:=fun _=>⟨u,rfl,hu⟩ }
theorem var (j:Ag W0 a b n d xs pv x1 x2 x3 x4 ok V lc lt lr lm lx ln ls vc vt vr vm vx vn W) (h:ls=false):Ag W0 a b n d xs pv x1 x2 x3 x4 ok V lc lt lr lm lx true ls vc vt vr vm vx (.pointer (some ⟨W.heap.size,0,none⟩)) (W.alloc (.cells #[.int .i64 0,.int .i64 0,.slice none 0 0,.int .i64 0,.int .i64 0] 47)):=
 { j.keep (bA W _) with n:=fun _ _=>⟨_,rfl,j.B.size,aH.new W _ _⟩,s:=fun q=>Rg.ff h q }
theorem put {u:Value} {H:Nat} (j:Ag W0 a b n d xs pv x1 x2 x3 x4 ok V lc lt lr lm lx ln ls vc vt vr vm vx vn W) (hn:vn=.pointer (some ⟨H,0,none⟩)) (hH:W0.heap.size≤H) (hV:aH W H 47 #[.int .i64 0,.int .i64 0,.slice none 0 0,.int .i64 0,.int .i64 0]) (hu:Rw.Own yY W W0.heap.size u V):Ag W0 a b n d xs pv x1 x2 x3 x4 ok V lc lt lr lm lx ln true vc vt vr vm vx vn (((((W.setCell ⟨H,0,none⟩ (.int .i64 x1)).setCell ⟨H,1,none⟩ (.int .i64 x2)).setCell ⟨H,2,none⟩ u).setCell ⟨H,3,none⟩ (.int .i64 x3)).setCell ⟨H,4,none⟩ (.int .i64 x4)) where
 B:=yL (yL (yL (yL (yL j.B hH _) hH _) hH _) hH _) hH _
 c:=fun h=>by
  obtain ⟨u,e,ho⟩:=j.c h;exact ⟨u,e,ho.oI hV cg ..⟩
 t:=j.t
 r:=fun h=>by
  obtain ⟨u,e,ho⟩:=j.r h;exact ⟨u,e,ho.oI hV cg ..⟩
 m:=fun h=>by
  obtain ⟨u,e,ho⟩:=j.m h;exact ⟨u,e,ho.oI hV cg ..⟩
 x:=fun h=>by
  obtain ⟨u,e,ho⟩:=j.x h;exact ⟨u,e,ho.oI hV cg ..⟩
 n:=fun _ h=>by cases h
 s:=fun _=>⟨H,u,hn,hH,hV.xM ..,hu.oI hV cg ..⟩
end Ag
end
section
open Go.ChangeShapes Go.WideShapes Go.ChangeAt Go.RowKit Go.Joins Go.Deep
theorem own:ownKnob Tryz.prog.godebug=none:=by kernel_rfl
theorem laidOut:laidOutB Tryz.prog=true:=by kernel_rfl
theorem M.fE {a:Int} (h:(Lit.int .i64 a).wf=true):M.CB a:=by
 have:=bounds_i64 h;exact this
section
variable {H:Type} {enc:TypeId × Value→H} {P:Program} {w:World} {base:Nat} {spare:Nat→Bool} {held:Bool}
theorem gT (hl:laidOutB P=true):∀ (ts:List TypeId) (hts:∀ t ∈ ts,P.readableRec t=true∧t<P.types.size) {W W':World} {vs:List Value} {ds:List (DataW H)} {ps:List MemPlace}
  (_:DataW.TrodAll enc P W 0 (fun _=>true) true ts vs ds ps) (_:Below W.heap.size W W') (_:∀ x ∈ ps,x.block<W.heap.size),DataW.TrodAll enc P W' 0 (fun b=>decide (b<W.heap.size)) true ts vs ds ps
 | [],_,_,_,_,_,_,h,_,_=>by
  obtain ⟨rfl,rfl,rfl⟩:=trodAll_nil h;exact trodAll_mk0
 | t :: ts,hts,_,_,_,_,_,h,hb,hlt=>by
  obtain ⟨v,vs',d,ds',p,q,rfl,rfl,rfl,h1,h2⟩:=trodAll_cons h;refine ⟨p,q,Below.trod hl (hts t List.mem_cons_self).1 (hts t List.mem_cons_self).2 h1 hb fun x hx=>hlt x (List.mem_append_left _ hx),?_,rfl⟩
  exact gT hl ts (fun t' ht'=>hts t' (List.mem_cons_of_mem _ ht')) h2 hb fun x hx=>hlt x (List.mem_append_right _ hx)
theorem law_post {f:Func} {s:ChangeSpec} {W W':World} {args:Array Value} {ds:List (DataW H)} {before:List MemPlace} {tb:TypeId}
  (hl:laidOutB P=true) (hts:∀ t ∈ f.params.toList,P.readableRec t=true∧t<P.types.size)
  (hvars:s.vars=[]) (hf:s.fn H ds={ results:=[.lit (.bool true)],args:=ds }) (hrt:f.resultTypes=#[tb]) (H9:P.underlying tb=some .bool)
  (hW:DataW.Whole enc P f.params.toList s.vars false W args.toList ds [] before) (hb:Below W.heap.size W W') :
  s.post enc P f false true false false W args (.bool true) W':=by
 have hlt:∀ p ∈ before,p.block<W.heap.size:=fun p hp=>hW.lt p hp
 obtain ⟨p,q,hA,hV,hpq,hz,hn⟩:=id hW;rw [hvars] at hV;obtain ⟨_,rfl⟩:=trodVars_none hV
 have hbp:before=p:=by simpa using hpq
 subst hbp
 have e1:s.fn H (ds ++ [])={ results:=[.lit (.bool true)],args:=ds }:=by rw [List.append_nil];exact hf
 refine ⟨ds,[],before,[],before,[],hW,?_,?_,?_,World.keptBut_mono (fun x hx=>⟨hx,Or.inr (Or.inl hx)⟩) (hb.frame (· ∈ before)),fun h=>by cases h⟩
 ·rw [e1,hrt]
  exact trodAll_mk1 (shut_bool H9 true)
 ·rw [e1]
  exact gT hl _ hts hA hb hlt
 rw [e1,hvars];exact rfl
end
def oy (w:World) (v:Value) (xs:List Int):Prop:=
 ∃ (A:Option Addr) (cap:Nat),v=.slice A xs.length cap∧(xs.length:Int)≤9223372036854775807∧
  ∀ k,k<xs.length→∃ g o x,A=some ⟨g,o,none⟩∧g<w.heap.size∧Hid (xs[k]?=some x)∧w.cell? ⟨g,o+k,none⟩=some (.int .i64 x)
theorem oy.keep {w w':World} {v:Value} {xs:List Int} (h:oy w v xs) (hb:Below w.heap.size w w'):oy w' v xs:=by
 obtain ⟨A,cap,rfl,hm,hv⟩:=h;refine ⟨A,cap,rfl,hm,fun k hk=>?_⟩;obtain ⟨g,o,x,hA,hg,hx,h0⟩:=hv k hk;exact ⟨g,o,x,hA,Nat.lt_of_lt_of_le hg hb.size,hx,aE hb h0⟩
end
section
open Go.RowKit Go.Shelf
theorem Rw.Own.xx {α:Type} {E:Rw.Enc α} {w w':World} {base:Nat} {r:Option Nat} {v:Value} {xs:List α} (h:Rw.Own E w base v xs) (hg:w.grownBy w' r) (hlt:∀ k,r=some k→k<base):Rw.Own E w' base v xs:=
 h.kept hg (fun g hg' e=>by
  have:=(h.lt g e).1;have:=hlt g hg'
  omega)
def gl (i j:Nat) (W0:World) (a b n d:Int) (xs:List Pt) (k:Nat) (v:Nat→Value) (W:World):Prop:=match k with
 | 0=>Below W0.heap.size W0 W
 | 1=>Below W0.heap.size W0 W∧∃ u,v i=.agg #[.int .i64 a,.int .i64 b,u,.int .i64 n,.int .i64 d]∧Rw.Own yY W W0.heap.size u xs
 | _=>Below W0.heap.size W0 W∧v j=.bool true
theorem gl.congr {i j:Nat} {W0:World} {a b n d:Int} {xs:List Pt} {k:Nat} {v v':Nat→Value} {W:World} (h1:v i=v' i) (h2:v j=v' j) (h:gl i j W0 a b n d xs k v W):gl i j W0 a b n d xs k v' W:=by
 unfold gl at *;rw [←h1,←h2];exact h
theorem gl.B {i j:Nat} {W0:World} {a b n d:Int} {xs:List Pt} {k:Nat} {v:Nat→Value} {W:World} (h:gl i j W0 a b n d xs k v W):Below W0.heap.size W0 W:=by
 match k,h with
 | 0,h=>exact h
 | 1,h=>exact h.1
 | _+2,h=>exact h.1
theorem gl.val {i j:Nat} {W0:World} {a b n d:Int} {xs:List Pt} {k:Nat} {v:Nat→Value} {W:World} (h:gl i j W0 a b n d xs k v W) (hk:1<k):v j=.bool true:=by
 match k,h with
 | _+2,h=>exact h.2
theorem law_ExtendCertificate (a b n d:Int) (p0:Pt) (_:M.CB a) (_:M.CB b) (_:M.CB n) (_:M.CB d) (_:M.CB p0.1) (_:M.CB p0.2.1) (_:M.CB p0.2.2) (v:Value) (xs:List Pt) (w:World) (hx:cP w v xs) :
  Calls Tryz.prog 6 #[.agg #[.int .i64 a,.int .i64 b,v,.int .i64 n,.int .i64 d],.agg #[.int .i64 p0.1,.int .i64 p0.2.1,.int .i64 p0.2.2]] w fun e w'=>e=.returned (.bool true)∧Below w.heap.size w w':=by
 have e1:=fun v w h hn=>fJ a b n d p0 v xs w h hn
 have e2:=fun v w h hn=>fF a b n d p0 v xs w h hn
 have hl:=M.xR (g:=M.dE a b xs n d) (a:=a) (b:=b) (l:=xs ++ [p0]);generalize M.dr (M.dE a b xs n d) a b (xs ++ [p0])=ok,(if M.dr (M.dE a b xs n d) a b (xs ++ [p0])=true then xs ++ [p0] else [])=V,M.pick (M.dr (M.dE a b xs n d) a b (xs ++ [p0])) (M.Bj a b (xs ++ [p0]))=x4,M.pick (M.dr (M.dE a b xs n d) a b (xs ++ [p0])) (M.Bk a b (xs ++ [p0]))=x3,M.pick (M.dr (M.dE a b xs n d) a b (xs ++ [p0])) b=x2,M.pick (M.dr (M.dE a b xs n d) a b (xs ++ [p0])) a=x1 at *;have E1:=yJ e1;have E2:=yJ e2;clear e1 e2
 have EQ:=yJ fun v u w h1 h2 hx hy p q=>fZ a b n d v u xs w h1 h2 hx hy p q
 have EV:=yJ fun v u w h1 h2 hx hy A9 As=>fZ x1 x2 x3 x4 v u V w h1 h2 hx hy A9 As
 have Hx:=yJ hx;obtain ⟨A,cap,rfl,-,-⟩:=hx;obtain ⟨wc,hw3,C,Pb,B⟩:=ki w #[.int .i64 a,.int .i64 b,.slice A xs.length cap,.int .i64 n,.int .i64 d] 41 #[.int .i64 p0.1,.int .i64 p0.2.1,.int .i64 p0.2.2] 55;have ⟨k0,k1,k2,k3,k4⟩:=C.bD
 by_cases hn:xs.length≤1048576
 ·have hL:0≤(1048576:Int) - xs.length:=by omega
  have TC:=yJ fun w (h:cP w (.slice A xs.length cap) xs)=>jH a b n d (.slice A xs.length cap) xs w h hn
  have TP:=yJ fun w=>lZ p0.1 p0.2.1 p0.2.2 w
  have HS:=fun w (h:cP w (.slice A xs.length cap) xs)=>fd a b n d (.slice A xs.length cap) xs w h
  simp only [if_pos hn] at HS;replace HS:=yJ HS
  have DH:xs.length≤4000000:=by omega
  have MK:=fun v w base (h:Rw.Own yY w base v xs)=>ei a b n d v xs 1 w base h (by decide) (by omega)
  have MV:=fun v w base (h:Rw.Own yY w base v V)=>ei x1 x2 x3 x4 v V 1 w base h (by decide) (by omega)
  have HV:=fun v w base (h:Rw.Own yY w base v (M.cV 1 V.length))=>iA x1 x2 x3 x4 v V.length 1 w base h (by decide) (by omega)
  have hk0:(0:Int)≤1+3*xs.length:=by omega
  have hm0:(0:Int)≤1+3*(V.length:Int):=by omega
  replace MK:=yJ MK;replace MV:=yJ MV;replace HV:=yJ HV;generalize hKe:(1:Int)+3*xs.length=K1 at *;generalize hMe:(1:Int)+3*(V.length:Int)=M1 at *;clear hKe hMe hl;generalize (1048576:Int) - xs.length=M0 at *;go_enter Tryz.func6,Tryz.ntmps6
  go_wp2_with fail
  refine (HS.out _ (Hx.out.keep B)).mono ?_;rintro e w1 ⟨rfl,b1⟩;replace B:=i_ B b1;replace C:=C.keep b1;replace Pb:=Pb.keep b1;clear k0 k1 k2 k3 k4
  go_upto_region 5 with fail
  refine Rg.ov (fun l_ v_ W=>Ag w1 a b n d xs (.agg #[.int .i64 p0.1,.int .i64 p0.2.1,.int .i64 p0.2.2]) x1 x2 x3 x4 ok V (l_ 1) (l_ 3) (l_ 4) (l_ 5) (l_ 6) (l_ 8) (l_ 9) (v_ 1) (v_ 3) (v_ 4) (v_ 5) (v_ 6) (v_ 8) W) [1,3,4,5,6,8,9] [.agg #[.int .i64 a,.int .i64 b,.slice A xs.length cap,.int .i64 n,.int .i64 d],undef,.agg #[.int .i64 p0.1,.int .i64 p0.2.1,.int .i64 p0.2.2],undef,undef,undef,undef,.bool ok,undef,undef,.bool ok] (by kernel_rfl) (by kernel_rfl) (by decide) (fun l1_ BL Jr BR W h j=>by
    have e1:=h 1 (by decide);have e3:=h 3 (by decide);have e4:=h 4 (by decide);have e5:=h 5 (by decide);have e6:=h 6 (by decide);have e8:=h 8 (by decide);have e9:=h 9 (by decide)
    show Ag w1 a b n d xs (.agg #[.int .i64 p0.1,.int .i64 p0.2.1,.int .i64 p0.2.2]) x1 x2 x3 x4 ok V (BL 1) (BL 3) (BL 4) (BL 5) (BL 6) (BL 8) (BL 9) (BR 1) (BR 3) (BR 4) (BR 5) (BR 6) (BR 8) W
    rw [←e1.1,←e3.1,←e4.1,←e5.1,←e6.1,←e8.1,←e9.1,←e1.2,←e3.2,←e4.2,←e5.2,←e6.2,←e8.2]
    exact j) (fun _=>Ag.start) ⟨?_,?_,?_,?_,?_,?_,?_,?_,?_,?_,?_,trivial⟩ ?_
  ·unfold Rg.ah
   intro zZ w_ l_ f_ hJ zA zB yp zH hr;refine ⟨rfl,?_⟩;rw [if_neg (by decide)];have e2:zZ.tmps[2]?=some (.pointer (some ⟨w.heap.size,0,none⟩)):=hr 2 (by decide);have hs_:=C.keep hJ.B;have ⟨k0,k1,k2,k3,k4⟩:=hs_.bD
   (first | (go_simp;done) | (go_simp;omega) | (go_simp;rfl))
  ·unfold Rg.ah
   intro zZ w_ l_ f_ hJ zA zB yp zH hr;have e22:zZ.tmps[22]?=some (.agg #[.int .i64 a,.int .i64 b,.slice A xs.length cap,.int .i64 n,.int .i64 d]):=hr 22 (by decide)
   have ef:∀ f,zZ.eval (.func f)=.func (.func f) #[] #[]:=fun _=>rfl
   refine ⟨rfl,?_⟩;rw [if_pos (by decide)];refine Rg.eh (by go_simp;exact ⟨rfl,rfl⟩) ?_;refine (TC.out _ (Hx.out.keep (B.trans (hJ.B.mono B.size)))).mono ?_;rintro e CW ⟨u_,rfl,yt,zj⟩;exact ⟨_,rfl,hJ.cert zj yt⟩
  ·unfold Rg.ah
   intro zZ w_ l_ f_ hJ zA zB yp zH hr;refine ⟨rfl,?_⟩;rw [if_neg (by decide)];have e3:zZ.tmps[3]?=some (.pointer (some ⟨w.heap.size+1,0,none⟩)):=hr 3 (by decide);have hs_:=Pb.keep hJ.B;have ⟨k0,k1,k2⟩:=hs_.aQ
   (first | (go_simp;done) | (go_simp;omega) | (go_simp;rfl))
  ·unfold Rg.ah
   intro zZ w_ l_ f_ hJ zA zB yp zH hr;have e24:zZ.tmps[24]?=some (.agg #[.int .i64 p0.1,.int .i64 p0.2.1,.int .i64 p0.2.2]):=hr 24 (by decide)
   have ef:∀ f,zZ.eval (.func f)=.func (.func f) #[] #[]:=fun _=>rfl
   refine ⟨rfl,?_⟩;rw [if_pos (by decide)];refine Rg.eh (by go_simp;exact ⟨rfl,rfl⟩) ?_;refine (TP.out _).mono ?_;rintro e CW ⟨rfl,zj⟩;exact ⟨_,rfl,hJ.point zj⟩
  ·unfold Rg.ah
   intro zZ w_ l_ f_ hJ zA zB yp zH hr;have e23:zZ.tmps[23]?=some (f_ 1):=hr 23 (by decide);have e25:zZ.tmps[25]?=some (f_ 3):=hr 25 (by decide)
   have ef:∀ f,zZ.eval (.func f)=.func (.func f) #[] #[]:=fun _=>rfl
   refine ⟨rfl,?_⟩;rw [if_pos (by decide)];obtain ⟨u_,e_,yt⟩:=hJ.c (yp 1 (by kernel_rfl));rw [e_] at e23;have Hz:=hJ.t (yp 3 (by kernel_rfl));rw [Hz] at e25;refine Rg.eh (by go_simp;exact ⟨rfl,rfl⟩) ?_;refine (E1.out _ _ yt.seen.pts DH).mono ?_;rintro e CW ⟨u2_,rfl,zB,zj⟩;exact ⟨_,rfl,hJ.call zj zB⟩
  ·unfold Rg.ah
   intro zZ w_ l_ f_ hJ zA zB yp zH hr;have e26:zZ.tmps[26]?=some (f_ 4):=hr 26 (by decide);refine ⟨rfl,?_⟩;rw [if_pos (by decide)];refine Rg.ep (x:=f_ 4) (w2:=w_) (by (first | (go_simp;done) | (go_simp;omega) | (go_simp;rfl))) ?_;exact hJ.move (yp 4 (by kernel_rfl))
  ·unfold Rg.ah
   intro zZ w_ l_ f_ hJ zA zB yp zH hr;have e21:zZ.tmps[21]?=some (f_ 5):=hr 21 (by decide);refine ⟨rfl,?_⟩;rw [if_pos (by decide)];obtain ⟨u_,e_,yt⟩:=hJ.m (yp 5 (by kernel_rfl));rw [e_] at e21;refine Rg.ep (x:=.agg #[.int .i64 x1,.int .i64 x2,u_,.int .i64 x3,.int .i64 x4]) (w2:=w_) (by (first | (go_simp;done) | (go_simp;omega) | (go_simp;rfl))) ?_;exact hJ.ext yt
  ·unfold Rg.ah
   intro zZ w_ l_ f_ hJ zA zB yp zH hr;refine ⟨rfl,?_⟩;rw [if_neg (by decide)];have e21:zZ.tmps[21]?=some (f_ 5):=hr 21 (by decide);obtain ⟨u_,e_,-⟩:=hJ.m (yp 5 (by kernel_rfl));rw [e_] at e21
   (first | (go_simp;done) | (go_simp;omega) | (go_simp;rfl))
  ·unfold Rg.ah
   intro zZ w_ l_ f_ hJ zA zB yp zH hr;refine ⟨rfl,?_⟩;rw [if_pos (by decide)];refine Rg.kL (x:=.pointer (some ⟨w_.heap.size,0,none⟩)) (ob:=.cells #[.int .i64 0,.int .i64 0,.slice none 0 0,.int .i64 0,.int .i64 0] 47) (by (first | (go_simp;done) | (go_simp;omega) | (go_simp;rfl))) ?_;exact hJ.var (zB 9 (by kernel_rfl))
  ·unfold Rg.ah
   intro zZ w_ l_ f_ hJ zA zB yp zH hr;have e6:zZ.tmps[6]?=some (f_ 8):=hr 6 (by decide);have e27:zZ.tmps[27]?=some (f_ 6):=hr 27 (by decide);refine ⟨rfl,?_⟩;rw [if_pos (by decide)];obtain ⟨H_,Co,F3,C8⟩:=hJ.n (yp 8 (by kernel_rfl)) zA;obtain ⟨u_,e_,yt⟩:=hJ.x (yp 6 (by kernel_rfl));obtain ⟨A_,c_,rfl⟩:=Av yt.seen.pts;rw [Co] at e6;rw [e_] at e27;have Dv:=hJ.put Co F3 C8 yt;have ⟨y0,y1,y2,y3,y4⟩:=C8.bD;have ⟨y5,y6,y7,y8,y9,_⟩:=C8.eU;clear C8 hJ e_ yt Co;unfold Oper.wp
   go_simp
   all_goals first | exact ⟨undef,Dv⟩ | exact ⟨_,rfl,Dv⟩ | exact Dv
  ·unfold Rg.ah
   intro zZ w_ l_ f_ hJ zA zB yp zH hr;refine ⟨rfl,?_⟩;rw [if_neg (by decide)];have e28:zZ.tmps[28]?=some (.bool ok):=hr 28 (by decide)
   (first | (go_simp;done) | (go_simp;omega) | (go_simp;rfl))
  intro vals HJ hJ hv;have yn:vals 10=.bool ok:=hv 10 (by decide) (by decide);simp only [Rg.ak,Rg.fill,Act.put,Nat.reduceAdd];clear hv;simp only [yn];clear yn;have hb5:=hJ.B;obtain ⟨g5,u5,eg,hg5,Qn,on⟩:=hJ.s rfl;rw [eg];clear hJ eg;obtain ⟨A0,c0,rfl⟩:=Av on.seen.pts;replace B:=i_ B hb5;replace C:=C.keep hb5;replace Pb:=Pb.keep hb5;have s:=on.seen;have Q0:=Qn;have hle:=yN HJ.heap.size;have h3:=B.size;have G:=yM HJ.heap.size HJ;clear on Qn;have ⟨k0,k1,k2,k3,k4⟩:=C.bD
  go_wp2_with fail
  refine (TC.out _ (Hx.out.keep B)).mono ?_;rintro e w4 ⟨v4,rfl,o4,b4⟩;replace B:=i_ B b4;replace G:=i_ G b4;have zG:=G.size;obtain ⟨A4,c4,rfl⟩:=Av o4.seen.pts
  have IE:∀ k,(Value.slice A4 xs.length c4).ownBlock=some k→HJ.heap.size≤k∧k<w4.heap.size:=fun k hk=>World.ownsRow.lt o4 k hk
  obtain ⟨wx,hwx,Qx,Bx⟩:=gU w4 #[.int .i64 a,.int .i64 b,.slice A4 xs.length c4,.int .i64 n,.int .i64 d] 47;have zx:=Bx.size;have H8:HJ.heap.size≤wx.heap.size:=Nat.le_trans b4.size zx;replace B:=i_ B Bx;replace G:=i_ G Bx;have zG:=G.size;replace o4:=o4.below Bx;clear k0 k1 k2 k3 k4;have Pw:=Pb.keep G
  go_upto_region 7 with fail
  refine Rg.ov (fun l_ v_ W=>Ag wx a b n d xs (.agg #[.int .i64 p0.1,.int .i64 p0.2.1,.int .i64 p0.2.2]) x1 x2 x3 x4 ok V (false) (l_ 2) (l_ 3) (l_ 4) (l_ 5) (l_ 7) (l_ 8) (undef) (v_ 2) (v_ 3) (v_ 4) (v_ 5) (v_ 7) W) [2,3,4,5,7,8] [.agg #[.int .i64 a,.int .i64 b,.slice A4 xs.length c4,.int .i64 n,.int .i64 d],.agg #[.int .i64 p0.1,.int .i64 p0.2.1,.int .i64 p0.2.2],undef,undef,undef,undef,.bool ok,undef,undef,.bool ok] (by kernel_rfl) (by kernel_rfl) (by decide) (fun l1_ BL Jr BR W h j=>by
    have e2:=h 2 (by decide);have e3:=h 3 (by decide);have e4:=h 4 (by decide);have e5:=h 5 (by decide);have e7:=h 7 (by decide);have e8:=h 8 (by decide)
    show Ag wx a b n d xs (.agg #[.int .i64 p0.1,.int .i64 p0.2.1,.int .i64 p0.2.2]) x1 x2 x3 x4 ok V (false) (BL 2) (BL 3) (BL 4) (BL 5) (BL 7) (BL 8) (undef) (BR 2) (BR 3) (BR 4) (BR 5) (BR 7) W
    rw [←e2.1,←e3.1,←e4.1,←e5.1,←e7.1,←e8.1,←e2.2,←e3.2,←e4.2,←e5.2,←e7.2]
    exact j) (fun _=>Ag.start) ⟨?_,?_,?_,?_,?_,?_,?_,?_,?_,?_,trivial⟩ ?_
  ·unfold Rg.ah
   intro zZ w_ l_ f_ hJ zA zB yp zH hr;refine ⟨rfl,?_⟩;rw [if_neg (by decide)];have e8:zZ.tmps[8]?=some (.pointer (some ⟨w4.heap.size,0,none⟩)):=hr 8 (by decide);have hs_:=Qx.keep hJ.B;have ⟨k0,k1,k2,k3,k4⟩:=hs_.bD
   (first | (go_simp;done) | (go_simp;omega) | (go_simp;rfl))
  ·unfold Rg.ah
   intro zZ w_ l_ f_ hJ zA zB yp zH hr;refine ⟨rfl,?_⟩;rw [if_neg (by decide)];have e3:zZ.tmps[3]?=some (.pointer (some ⟨w.heap.size+1,0,none⟩)):=hr 3 (by decide);have hs_:=Pw.keep hJ.B;have ⟨k0,k1,k2⟩:=hs_.aQ
   (first | (go_simp;done) | (go_simp;omega) | (go_simp;rfl))
  ·unfold Rg.ah
   intro zZ w_ l_ f_ hJ zA zB yp zH hr;have e33:zZ.tmps[33]?=some (.agg #[.int .i64 p0.1,.int .i64 p0.2.1,.int .i64 p0.2.2]):=hr 33 (by decide)
   have ef:∀ f,zZ.eval (.func f)=.func (.func f) #[] #[]:=fun _=>rfl
   refine ⟨rfl,?_⟩;rw [if_pos (by decide)];refine Rg.eh (by go_simp;exact ⟨rfl,rfl⟩) ?_;refine (TP.out _).mono ?_;rintro e CW ⟨rfl,zj⟩;exact ⟨_,rfl,hJ.point zj⟩
  ·unfold Rg.ah
   intro zZ w_ l_ f_ hJ zA zB yp zH hr;have e32:zZ.tmps[32]?=some (.agg #[.int .i64 a,.int .i64 b,.slice A4 xs.length c4,.int .i64 n,.int .i64 d]):=hr 32 (by decide);have e34:zZ.tmps[34]?=some (f_ 2):=hr 34 (by decide)
   have ef:∀ f,zZ.eval (.func f)=.func (.func f) #[] #[]:=fun _=>rfl
   refine ⟨rfl,?_⟩;rw [if_pos (by decide)];have Hz:=hJ.t (yp 2 (by kernel_rfl));rw [Hz] at e34;refine Rg.eh (by go_simp;exact ⟨rfl,rfl⟩) ?_;refine (E2.out _ _ (o4.below hJ.B).seen.pts DH).mono ?_;rintro e CW ⟨u2_,rfl,zB,zj⟩;exact ⟨_,rfl,hJ.call zj zB⟩
  ·unfold Rg.ah
   intro zZ w_ l_ f_ hJ zA zB yp zH hr;have e35:zZ.tmps[35]?=some (f_ 3):=hr 35 (by decide);refine ⟨rfl,?_⟩;rw [if_pos (by decide)];refine Rg.ep (x:=f_ 3) (w2:=w_) (by (first | (go_simp;done) | (go_simp;omega) | (go_simp;rfl))) ?_;exact hJ.move (yp 3 (by kernel_rfl))
  ·unfold Rg.ah
   intro zZ w_ l_ f_ hJ zA zB yp zH hr;have e31:zZ.tmps[31]?=some (f_ 4):=hr 31 (by decide);refine ⟨rfl,?_⟩;rw [if_pos (by decide)];obtain ⟨u_,e_,yt⟩:=hJ.m (yp 4 (by kernel_rfl));rw [e_] at e31;refine Rg.ep (x:=.agg #[.int .i64 x1,.int .i64 x2,u_,.int .i64 x3,.int .i64 x4]) (w2:=w_) (by (first | (go_simp;done) | (go_simp;omega) | (go_simp;rfl))) ?_;exact hJ.ext yt
  ·unfold Rg.ah
   intro zZ w_ l_ f_ hJ zA zB yp zH hr;refine ⟨rfl,?_⟩;rw [if_neg (by decide)];have e31:zZ.tmps[31]?=some (f_ 4):=hr 31 (by decide);obtain ⟨u_,e_,-⟩:=hJ.m (yp 4 (by kernel_rfl));rw [e_] at e31
   (first | (go_simp;done) | (go_simp;omega) | (go_simp;rfl))
  ·unfold Rg.ah
   intro zZ w_ l_ f_ hJ zA zB yp zH hr;refine ⟨rfl,?_⟩;rw [if_pos (by decide)];refine Rg.kL (x:=.pointer (some ⟨w_.heap.size,0,none⟩)) (ob:=.cells #[.int .i64 0,.int .i64 0,.slice none 0 0,.int .i64 0,.int .i64 0] 47) (by (first | (go_simp;done) | (go_simp;omega) | (go_simp;rfl))) ?_;exact hJ.var (zB 8 (by kernel_rfl))
  ·unfold Rg.ah
   intro zZ w_ l_ f_ hJ zA zB yp zH hr;have e9:zZ.tmps[9]?=some (f_ 7):=hr 9 (by decide);have e36:zZ.tmps[36]?=some (f_ 5):=hr 36 (by decide);refine ⟨rfl,?_⟩;rw [if_pos (by decide)];obtain ⟨H_,Co,F3,C8⟩:=hJ.n (yp 7 (by kernel_rfl)) zA;obtain ⟨u_,e_,yt⟩:=hJ.x (yp 5 (by kernel_rfl));obtain ⟨A_,c_,rfl⟩:=Av yt.seen.pts;rw [Co] at e9;rw [e_] at e36;have Dv:=hJ.put Co F3 C8 yt;have ⟨y0,y1,y2,y3,y4⟩:=C8.bD;have ⟨y5,y6,y7,y8,y9,_⟩:=C8.eU;clear C8 hJ e_ yt Co;unfold Oper.wp
   go_simp
   all_goals first | exact ⟨undef,Dv⟩ | exact ⟨_,rfl,Dv⟩ | exact Dv
  ·unfold Rg.ah
   intro zZ w_ l_ f_ hJ zA zB yp zH hr;refine ⟨rfl,?_⟩;rw [if_neg (by decide)];have e37:zZ.tmps[37]?=some (.bool ok):=hr 37 (by decide)
   (first | (go_simp;done) | (go_simp;omega) | (go_simp;rfl))
  intro vals wz7 hJ hv;have AX:vals 9=.bool ok:=hv 9 (by decide) (by decide);simp only [Rg.ak,Rg.fill,Act.put,Nat.reduceAdd];clear hv;simp only [AX];clear AX;have yh:=hJ.B;obtain ⟨g7,u7,eg,Et,Qn,on⟩:=hJ.s rfl;rw [eg];clear hJ eg;obtain ⟨A1,c1,rfl⟩:=Av on.seen.pts;replace B:=i_ B yh;replace G:=i_ G yh;have zG:=G.size;replace o4:=o4.below yh;replace Qx:=Qx.keep yh;have p:=on;have Q1:=Qn;clear on Qn Pw;have ⟨q0,q1,q2,q3,q4⟩:=(Q0.keep G).bD;have ⟨r0,r1,r2,r3,r4⟩:=Q1.bD
  go_wp2_with fail
  refine (EV.out _ _ _ _ _ p.seen (s.below (G.mono hle)) (yN _) (Nat.le_trans hle zG)).mono ?_;rintro e w7 ⟨rfl,b7⟩;replace B:=i_ B b7;replace G:=i_ G b7;have zG:=G.size;replace o4:=o4.below b7;replace p:=p.below b7;replace Qx:=Qx.keep b7;replace Q1:=Q1.keep b7;clear q0 q1 q2 q3 q4;clear r0 r1 r2 r3 r4;have Cw:=C.keep G
  go_upto_region 10 with fail
  refine Rg.ou (fun k v W=>gl 2 3 w7 a b n d xs k v W) [2,3] [.agg #[.int .i64 a,.int .i64 b,.slice A4 xs.length c4,.int .i64 n,.int .i64 d],.agg #[.int .i64 a,.int .i64 b,.slice A xs.length cap,.int .i64 n,.int .i64 d],undef,undef,.bool false] (by kernel_rfl) (by kernel_rfl) (by kernel_rfl) (by decide) (fun k v v2 W h hj=>gl.congr (h 2 (by decide)) (h 3 (by decide)) hj) (fun _=>(yM _ _).drew) ⟨?_,?_,?_,?_,?_,trivial⟩ ?_
  ·unfold Rg.aj
   rw [if_neg (by decide)];intro zZ w_ n_ f_ zg hJ hr;refine ⟨rfl,?_⟩;have e8:zZ.tmps[8]?=some (.pointer (some ⟨w4.heap.size,0,none⟩)):=hr 8 (by decide);have hs_:=Qx.keep (gl.B hJ);have ⟨k0,k1,k2,k3,k4⟩:=hs_.bD
   (first | (go_simp;done) | (go_simp;omega) | (go_simp;rfl))
  ·unfold Rg.aj
   rw [if_neg (by decide)];intro zZ w_ n_ f_ zg hJ hr;refine ⟨rfl,?_⟩;have e2:zZ.tmps[2]?=some (.pointer (some ⟨w.heap.size,0,none⟩)):=hr 2 (by decide);have hs_:=Cw.keep (gl.B hJ);have ⟨k0,k1,k2,k3,k4⟩:=hs_.bD
   (first | (go_simp;done) | (go_simp;omega) | (go_simp;rfl))
  ·unfold Rg.aj
   rw [if_pos (by decide)];intro zZ w_ f_ hJ hr;have e48:zZ.tmps[48]?=some (.agg #[.int .i64 a,.int .i64 b,.slice A xs.length cap,.int .i64 n,.int .i64 d]):=hr 48 (by decide)
   have ef:∀ f,zZ.eval (.func f)=.func (.func f) #[] #[]:=fun _=>rfl
   refine ⟨rfl,?_⟩;have hJ:Below w7.heap.size w7 w_:=hJ;refine Rg.eh (by go_simp;exact ⟨rfl,rfl⟩) ?_;refine (TC.out _ (Hx.out.keep (i_ B hJ))).mono ?_;rintro e w6_ ⟨u_,rfl,yt,zj⟩;exact ⟨_,rfl,i_ hJ zj,u_,rfl,yt.down hJ.size⟩
  ·unfold Rg.aj
   rw [if_pos (by decide)];intro zZ w_ f_ hJ hr;have e47:zZ.tmps[47]?=some (.agg #[.int .i64 a,.int .i64 b,.slice A4 xs.length c4,.int .i64 n,.int .i64 d]):=hr 47 (by decide);have e49:zZ.tmps[49]?=some (f_ 2):=hr 49 (by decide)
   have ef:∀ f,zZ.eval (.func f)=.func (.func f) #[] #[]:=fun _=>rfl
   refine ⟨rfl,?_⟩;obtain ⟨zj,u_,q_,yt⟩:Below w7.heap.size w7 w_∧∃ u,f_ 2=.agg #[.int .i64 a,.int .i64 b,u,.int .i64 n,.int .i64 d]∧Rw.Own yY w_ w7.heap.size u xs:=hJ;rw [q_] at e49;refine Rg.eh (by go_simp;exact ⟨rfl,rfl⟩) ?_;refine (EQ.out _ _ _ _ _ (o4.below zj).seen yt.seen (yN _) (yN _)).mono ?_;rintro e w6_ ⟨rfl,Ma⟩;exact ⟨_,rfl,i_ zj Ma,rfl⟩
  ·unfold Rg.aj
   rw [if_neg (by decide)];intro zZ w_ n_ f_ zg hJ hr;refine ⟨rfl,?_⟩;have e50:zZ.tmps[50]?=some (f_ 3):=hr 50 (by decide);rw [gl.val hJ (zg.2.2 3 (by decide) (by kernel_rfl))] at e50
   (first | (go_simp;done) | (go_simp;omega) | (go_simp;rfl))
  intro vals wz hJ hv;have Cy:vals 4=.bool false:=hv 4 (by decide) (by decide);simp only [Rg.ak,Rg.fill,Act.put,Nat.reduceAdd];clear hv;simp only [Cy];clear Cy;have hb:=gl.B hJ;clear hJ Cw;replace B:=i_ B hb;replace G:=i_ G hb;have zG:=G.size;replace o4:=o4.below hb;replace p:=p.below hb;replace Qx:=Qx.keep hb;replace Q1:=Q1.keep hb;have ⟨y0,y1,y2,y3,y4⟩:=Qx.bD
  go_wp2_with fail
  refine (MK.out _ _ _ o4).mono ?_;rintro e EU ⟨rfl,-,hg⟩;have b10:Below HJ.heap.size wz EU:=cN hg zG (fun k hk=>(IE k hk).1);replace B:=B.trans (b10.mono h3);replace G:=G.trans b10;replace zG:=G.size;replace Q1:=Q1.iU o4 hg cg;replace p:=p.xx hg (fun k hk=>Nat.lt_of_lt_of_le (IE k hk).2 zx);clear o4 hg Qx;clear y0 y1 y2 y3 y4;have ⟨q0,q1,q2,q3,q4⟩:=(Q0.keep G).bD;have ⟨r0,r1,r2,r3,r4⟩:=Q1.bD
  go_wp2_with fail
  refine (EV.out _ _ _ _ _ p.seen (s.below (G.mono hle)) (yN _) (Nat.le_trans hle zG)).mono ?_;rintro e w11 ⟨rfl,b11⟩;replace B:=i_ B b11;replace G:=i_ G b11;have zG:=G.size;replace p:=p.below b11;replace Q1:=Q1.keep b11;clear q0 q1 q2 q3 q4;clear r0 r1 r2 r3 r4;have ⟨r0,r1,r2,r3,r4⟩:=Q1.bD
  have zq:wx.heap.size≤w11.heap.size:=by have:=yh.size;have:=b7.size;have:=hb.size;have:=b10.size;have:=b11.size;omega
  go_wp2_with fail
  refine (MV.out _ _ _ p).mono ?_;rintro e w12 ⟨rfl,q,hg⟩;have b12:Below wx.heap.size w11 w12:=cN hg zq (fun k hk=>(p.lt k hk).1);replace Q1:=Q1.iU p hg cg;clear hg;replace B:=B.trans (b12.mono (Nat.le_trans h3 H8));replace G:=G.trans (b12.mono H8);replace zG:=G.size;clear p;clear r0 r1 r2 r3 r4;have ⟨r0,r1,r2,r3,r4⟩:=Q1.bD
  go_wp2_with fail
  refine (HV.out _ _ _ q).mono ?_;rintro e w13 ⟨rfl,b13⟩;replace B:=i_ B b13;replace G:=i_ G b13;have zG:=G.size;replace q:=q.below b13;replace Q1:=Q1.keep b13;clear r0 r1 r2 r3 r4;have ⟨k0,k1,k2,k3,k4⟩:=(C.keep G).bD;clear k0 k1 k2 k3 k4;have Cw:=C.keep G;have Pw:=Pb.keep G
  go_upto_region 24 with fail
  refine Rg.ov (fun l_ v_ W=>Ag w13 a b n d xs (.agg #[.int .i64 p0.1,.int .i64 p0.2.1,.int .i64 p0.2.2]) x1 x2 x3 x4 ok V (l_ 1) (l_ 3) (l_ 4) (l_ 5) (l_ 6) (l_ 8) (l_ 9) (v_ 1) (v_ 3) (v_ 4) (v_ 5) (v_ 6) (v_ 8) W) [1,3,4,5,6,8,9] [.agg #[.int .i64 a,.int .i64 b,.slice A xs.length cap,.int .i64 n,.int .i64 d],undef,.agg #[.int .i64 p0.1,.int .i64 p0.2.1,.int .i64 p0.2.2],undef,undef,undef,undef,.bool ok,undef,undef,.bool ok] (by kernel_rfl) (by kernel_rfl) (by decide) (fun l1_ BL Jr BR W h j=>by
    have e1:=h 1 (by decide);have e3:=h 3 (by decide);have e4:=h 4 (by decide);have e5:=h 5 (by decide);have e6:=h 6 (by decide);have e8:=h 8 (by decide);have e9:=h 9 (by decide)
    show Ag w13 a b n d xs (.agg #[.int .i64 p0.1,.int .i64 p0.2.1,.int .i64 p0.2.2]) x1 x2 x3 x4 ok V (BL 1) (BL 3) (BL 4) (BL 5) (BL 6) (BL 8) (BL 9) (BR 1) (BR 3) (BR 4) (BR 5) (BR 6) (BR 8) W
    rw [←e1.1,←e3.1,←e4.1,←e5.1,←e6.1,←e8.1,←e9.1,←e1.2,←e3.2,←e4.2,←e5.2,←e6.2,←e8.2]
    exact j) (fun _=>Ag.start) ⟨?_,?_,?_,?_,?_,?_,?_,?_,?_,?_,?_,trivial⟩ ?_
  ·unfold Rg.ah
   intro zZ w_ l_ f_ hJ zA zB yp zH hr;refine ⟨rfl,?_⟩;rw [if_neg (by decide)];have e2:zZ.tmps[2]?=some (.pointer (some ⟨w.heap.size,0,none⟩)):=hr 2 (by decide);have hs_:=Cw.keep hJ.B;have ⟨k0,k1,k2,k3,k4⟩:=hs_.bD
   (first | (go_simp;done) | (go_simp;omega) | (go_simp;rfl))
  ·unfold Rg.ah
   intro zZ w_ l_ f_ hJ zA zB yp zH hr;have e80:zZ.tmps[80]?=some (.agg #[.int .i64 a,.int .i64 b,.slice A xs.length cap,.int .i64 n,.int .i64 d]):=hr 80 (by decide)
   have ef:∀ f,zZ.eval (.func f)=.func (.func f) #[] #[]:=fun _=>rfl
   refine ⟨rfl,?_⟩;rw [if_pos (by decide)];refine Rg.eh (by go_simp;exact ⟨rfl,rfl⟩) ?_;refine (TC.out _ (Hx.out.keep (B.trans (hJ.B.mono B.size)))).mono ?_;rintro e CW ⟨u_,rfl,yt,zj⟩;exact ⟨_,rfl,hJ.cert zj yt⟩
  ·unfold Rg.ah
   intro zZ w_ l_ f_ hJ zA zB yp zH hr;refine ⟨rfl,?_⟩;rw [if_neg (by decide)];have e3:zZ.tmps[3]?=some (.pointer (some ⟨w.heap.size+1,0,none⟩)):=hr 3 (by decide);have hs_:=Pw.keep hJ.B;have ⟨k0,k1,k2⟩:=hs_.aQ
   (first | (go_simp;done) | (go_simp;omega) | (go_simp;rfl))
  ·unfold Rg.ah
   intro zZ w_ l_ f_ hJ zA zB yp zH hr;have e82:zZ.tmps[82]?=some (.agg #[.int .i64 p0.1,.int .i64 p0.2.1,.int .i64 p0.2.2]):=hr 82 (by decide)
   have ef:∀ f,zZ.eval (.func f)=.func (.func f) #[] #[]:=fun _=>rfl
   refine ⟨rfl,?_⟩;rw [if_pos (by decide)];refine Rg.eh (by go_simp;exact ⟨rfl,rfl⟩) ?_;refine (TP.out _).mono ?_;rintro e CW ⟨rfl,zj⟩;exact ⟨_,rfl,hJ.point zj⟩
  ·unfold Rg.ah
   intro zZ w_ l_ f_ hJ zA zB yp zH hr;have L8:zZ.tmps[81]?=some (f_ 1):=hr 81 (by decide);have L9:zZ.tmps[83]?=some (f_ 3):=hr 83 (by decide)
   have ef:∀ f,zZ.eval (.func f)=.func (.func f) #[] #[]:=fun _=>rfl
   refine ⟨rfl,?_⟩;rw [if_pos (by decide)];obtain ⟨u_,e_,yt⟩:=hJ.c (yp 1 (by kernel_rfl));rw [e_] at L8;have Hz:=hJ.t (yp 3 (by kernel_rfl));rw [Hz] at L9;refine Rg.eh (by go_simp;exact ⟨rfl,rfl⟩) ?_;refine (E2.out _ _ yt.seen.pts DH).mono ?_;rintro e CW ⟨u2_,rfl,zB,zj⟩;exact ⟨_,rfl,hJ.call zj zB⟩
  ·unfold Rg.ah
   intro zZ w_ l_ f_ hJ zA zB yp zH hr;have e84:zZ.tmps[84]?=some (f_ 4):=hr 84 (by decide);refine ⟨rfl,?_⟩;rw [if_pos (by decide)];refine Rg.ep (x:=f_ 4) (w2:=w_) (by (first | (go_simp;done) | (go_simp;omega) | (go_simp;rfl))) ?_;exact hJ.move (yp 4 (by kernel_rfl))
  ·unfold Rg.ah
   intro zZ w_ l_ f_ hJ zA zB yp zH hr;have Hy:zZ.tmps[79]?=some (f_ 5):=hr 79 (by decide);refine ⟨rfl,?_⟩;rw [if_pos (by decide)];obtain ⟨u_,e_,yt⟩:=hJ.m (yp 5 (by kernel_rfl));rw [e_] at Hy;refine Rg.ep (x:=.agg #[.int .i64 x1,.int .i64 x2,u_,.int .i64 x3,.int .i64 x4]) (w2:=w_) (by (first | (go_simp;done) | (go_simp;omega) | (go_simp;rfl))) ?_;exact hJ.ext yt
  ·unfold Rg.ah
   intro zZ w_ l_ f_ hJ zA zB yp zH hr;refine ⟨rfl,?_⟩;rw [if_neg (by decide)];have Hy:zZ.tmps[79]?=some (f_ 5):=hr 79 (by decide);obtain ⟨u_,e_,-⟩:=hJ.m (yp 5 (by kernel_rfl));rw [e_] at Hy
   (first | (go_simp;done) | (go_simp;omega) | (go_simp;rfl))
  ·unfold Rg.ah
   intro zZ w_ l_ f_ hJ zA zB yp zH hr;refine ⟨rfl,?_⟩;rw [if_pos (by decide)];refine Rg.kL (x:=.pointer (some ⟨w_.heap.size,0,none⟩)) (ob:=.cells #[.int .i64 0,.int .i64 0,.slice none 0 0,.int .i64 0,.int .i64 0] 47) (by (first | (go_simp;done) | (go_simp;omega) | (go_simp;rfl))) ?_;exact hJ.var (zB 9 (by kernel_rfl))
  ·unfold Rg.ah
   intro zZ w_ l_ f_ hJ zA zB yp zH hr;have e14:zZ.tmps[14]?=some (f_ 8):=hr 14 (by decide);have L_:zZ.tmps[85]?=some (f_ 6):=hr 85 (by decide);refine ⟨rfl,?_⟩;rw [if_pos (by decide)];obtain ⟨H_,Co,F3,C8⟩:=hJ.n (yp 8 (by kernel_rfl)) zA;obtain ⟨u_,e_,yt⟩:=hJ.x (yp 6 (by kernel_rfl));obtain ⟨A_,c_,rfl⟩:=Av yt.seen.pts;rw [Co] at e14;rw [e_] at L_;have Dv:=hJ.put Co F3 C8 yt;have ⟨y0,y1,y2,y3,y4⟩:=C8.bD;have ⟨y5,y6,y7,y8,y9,_⟩:=C8.eU;clear C8 hJ e_ yt Co;unfold Oper.wp
   go_simp
   all_goals first | exact ⟨undef,Dv⟩ | exact ⟨_,rfl,Dv⟩ | exact Dv
  ·unfold Rg.ah
   intro zZ w_ l_ f_ hJ zA zB yp zH hr;refine ⟨rfl,?_⟩;rw [if_neg (by decide)];have e86:zZ.tmps[86]?=some (.bool ok):=hr 86 (by decide)
   (first | (go_simp;done) | (go_simp;omega) | (go_simp;rfl))
  intro vals wz24 hJ hv;have yn:vals 10=.bool ok:=hv 10 (by decide) (by decide);simp only [Rg.ak,Rg.fill,Act.put,Nat.reduceAdd];clear hv;simp only [yn];clear yn;have Es:=hJ.B;obtain ⟨g24,u24,eg,hg24,Qn,on⟩:=hJ.s rfl;rw [eg];clear hJ eg;obtain ⟨A2,c2,rfl⟩:=Av on.seen.pts;replace B:=i_ B Es;replace G:=i_ G Es;have zG:=G.size;replace q:=q.below Es;replace Q1:=Q1.keep Es;have hw:=on;have Q2:=Qn;clear on Qn Pw Cw;have ⟨q0,q1,q2,q3,q4⟩:=(Q0.keep G).bD;have ⟨t0,t1,t2,t3,t4⟩:=Q2.bD
  go_wp2_with fail
  refine (EV.out _ _ _ _ _ hw.seen (s.below (G.mono hle)) (yN _) (Nat.le_trans hle zG)).mono ?_;rintro e w17 ⟨rfl,b17⟩;replace B:=i_ B b17;replace G:=i_ G b17;have zG:=G.size;replace q:=q.below b17;replace Q1:=Q1.keep b17;clear q0 q1 q2 q3 q4;clear t0 t1 t2 t3 t4;have ⟨r0,r1,r2,r3,r4⟩:=Q1.bD
  go_wp2_with fail
  refine (HV.out _ _ _ q).mono ?_;rintro e w18 ⟨rfl,b18⟩;replace B:=i_ B b18
  go_wp2_with fail
  go_ret;exact ⟨by simp,B⟩
 have HS:=fun w (h:cP w (.slice A xs.length cap) xs)=>fd a b n d (.slice A xs.length cap) xs w h
 simp only [if_neg hn] at HS;replace HS:=yJ HS;generalize xs.length=L at *;go_enter Tryz.func6,Tryz.ntmps6
 go_wp2_with fail
 refine (HS.out _ (Hx.out.keep B)).mono ?_;rintro e w1 ⟨rfl,b1⟩;replace B:=i_ B b1;go_wp2;go_ret;exact ⟨rfl,B⟩
end
section
open Go.ChangeShapes Go.WideShapes Go.ChangeAt Go.RowKit Go.Joins Go.Deep
theorem mU {H:Type} {enc:TypeId × Value→H} {P:Program} {w:World} {base fuel:Nat} {held:Bool} {t te ti:TypeId} {f0 f1 f2:Field} {v:Value} {x0:DataW H × List MemPlace}
  (ht:P.underlying t=some (.slice te)) (he:P.underlying te=some (.struct #[f0,f1,f2])) (t0:f0.type=ti) (t1:f1.type=ti) (t2:f2.type=ti) (hi:P.underlying ti=some (.int .i64)) (ce:P.cellsOf te=3) (o0:f0.offset=0) (o1:f1.offset=1) (o2:f2.offset=2)
  (ci:P.cellsOf ti=1) (hf:DataW.trod enc P w base (fun _=>true) held fuel t [v]=some x0) :
  ∃ xs:List Pt,cP w v xs:=by
 obtain ⟨a1,len,cap,e⟩:=slice_form ht hf
 injection e with e _
 subst e
 rcases open_slice ht hf with ⟨hcs,hx⟩ | ⟨a,len',cap',m,n,D,Pl,hcs,hb,hl,hm,hmm,hx,hall⟩
 ·simp at hcs
  obtain ⟨rfl,rfl,rfl⟩:=hcs;exact ⟨[],none,0,rfl,by simp,fun k hk=>absurd hk (by simp)⟩
 simp at hcs
 obtain ⟨rfl,rfl,rfl⟩:=hcs;simp only [if_true] at hmm
 have each:∀ i,i<len→∃ q:Pt,w.cell? (a.add (i*3))=some (.int .i64 q.1)∧w.cell? (a.add (i*3+1))=some (.int .i64 q.2.1)∧w.cell? (a.add (i*3+2))=some (.int .i64 q.2.2):=by
  intro i hi2;obtain ⟨cs',h1,h2⟩:=hall i (by omega);rw [ce] at h1;obtain ⟨_,hlen,hcell⟩:=World.cells?_some h1;obtain ⟨xs,k,hk,hxy,_,hxl,EM⟩:=DataW.trod_struct he h2
  match xs,hxl,cs',hlen with
  | [y0,y1,y2],_,[v0,v1,v2],_=>
  have g0:=EM 0 f0 rfl;have g1:=EM 1 f1 rfl;have g2:=EM 2 f2 rfl;simp [o0,o1,o2,t0,t1,t2,ci] at g0 g1 g2
  have e0:=hcell 0 (by omega);have e1:=hcell 1 (by omega);have e2:=hcell 2 (by omega);rw [add_add] at e0 e1 e2;obtain ⟨x,ex,-,-⟩:=DataW.trod_int hi g0;obtain ⟨y,ey,-,-⟩:=DataW.trod_int hi g1;obtain ⟨z,ez,-,-⟩:=DataW.trod_int hi g2;simp only [List.cons.injEq,and_true] at ex ey ez;subst ex ey ez;refine ⟨(intOf (.int .i64 x),intOf (.int .i64 y),intOf (.int .i64 z)),?_,?_,?_⟩
  ·simpa [intOf] using e0
  ·simpa [intOf] using e1
  simpa [intOf] using e2
 obtain ⟨q,hq⟩:=choose_lt each;refine ⟨(List.range len).map q,some a,cap,by simp,by simp;unfold maxLen at hm;omega,fun k hk=>?_⟩
 have hk':k<len:=by simpa using hk
 obtain ⟨h1,h2,h3⟩:=hq k hk';obtain ⟨ab,ao,spot⟩:=a
 have hspot:spot=none:=by simpa [Addr.add] using World.cell?_spot (hq 0 (by omega)).1
 subst hspot;rw [Addr.add_lit] at h1 h2 h3;exact ⟨ab,ao,q k,rfl,World.block_lt_of_cell? w _ h1,yJ (by rw [List.getElem?_map,List.getElem?_range hk'];rfl),h1,by rw [Nat.add_assoc];exact h2,by rw [Nat.add_assoc];exact h3⟩
theorem wh {α:Type} {cs:Array α} (h:cs.size=5):∃ c0 c1 c2 c3 c4,cs=#[c0,c1,c2,c3,c4]:=by
 obtain ⟨l⟩:=cs
 match l,h with
 | [c0,c1,c2,c3,c4],_=>exact ⟨c0,c1,c2,c3,c4,rfl⟩
theorem lR {H:Type} {enc:TypeId × Value→H} {P:Program} {w:World} {base fuel:Nat} {spare:Nat→Bool} {held:Bool} {t ti:TypeId} {f0 f1:Field} {u v:Value} {x:DataW H × List MemPlace}
  (hs:P.underlying t=some (.struct #[f0,f1])) (h0:f0.type=ti) (h1:f1.type=ti) (hi:P.underlying ti=some (.int .i64)) (o0:f0.offset=0) (o1:f1.offset=1) (ci:P.cellsOf ti=1) (hf:DataW.trod enc P w base spare held fuel t [u,v]=some x) :
  ∃ a b,u=.int .i64 a∧v=.int .i64 b∧M.CB a∧M.CB b:=by
 obtain ⟨xs,n,-,-,-,hl,EM⟩:=DataW.trod_struct hs hf
 match xs,hl with
 | [y0,y1],_=>
 have g0:=EM 0 f0 rfl;have g1:=EM 1 f1 rfl;simp [o0,o1,h0,h1,ci] at g0 g1
 obtain ⟨a,ea,-,wa⟩:=DataW.trod_int hi g0;obtain ⟨b,eb,-,wb⟩:=DataW.trod_int hi g1;simp only [List.cons.injEq,and_true] at ea eb;exact ⟨a,b,ea,eb,M.fE wa,M.fE wb⟩
theorem open_cert {H:Type} {enc:TypeId × Value→H} {P:Program} {w:World} {base b0:Nat} {held:Bool} {r:Reach} {t tc ts te tf ti:TypeId} {f0 f1 f2 c0 c1 p0 p1 p2 r0 r1:Field} {v:Value} {d:DataW H} {ps:List MemPlace}
  (hs:P.underlying t=some (.struct #[f0,f1,f2])) (h0:f0.type=tc) (h1:f1.type=ts) (h2:f2.type=tf) (o0:f0.offset=0) (o1:f1.offset=2) (o2:f2.offset=3) (ct:P.cellsOf t=5)
  (hc:P.underlying tc=some (.struct #[c0,c1])) (hc0:c0.type=ti) (hc1:c1.type=ti) (oc0:c0.offset=0) (oc1:c1.offset=1) (cc:P.cellsOf tc=2)
  (hf:P.underlying tf=some (.struct #[r0,r1])) (hf0:r0.type=ti) (hf1:r1.type=ti) (of0:r0.offset=0) (of1:r1.offset=1) (cf:P.cellsOf tf=2)
  (hl:P.underlying ts=some (.slice te)) (cs1:P.cellsOf ts=1) (he:P.underlying te=some (.struct #[p0,p1,p2])) (t0:p0.type=ti) (t1:p1.type=ti) (t2:p2.type=ti) (ce:P.cellsOf te=3) (q0:p0.offset=0) (q1:p1.offset=1) (q2:p2.offset=2)
  (hi:P.underlying ti=some (.int .i64)) (ci:P.cellsOf ti=1) (hv:Value.okWide P w r b0 t v) (h:DataW.Trod enc P w base (fun _=>true) held t v d ps) :
  ∃ (a b n d:Int) (u:Value) (xs:List Pt),v=.agg #[.int .i64 a,.int .i64 b,u,.int .i64 n,.int .i64 d]∧M.CB a∧M.CB b∧M.CB n∧M.CB d∧cP w u xs:=by
 obtain ⟨cs,rfl,hsz⟩:=okWide_struct hs hv;obtain ⟨v0,v1,v2,v3,v4,rfl⟩:=wh (hsz.trans ct);obtain ⟨fuel,hf'⟩:=h;obtain ⟨xs,n,-,-,-,hlen,EM⟩:=DataW.trod_struct hs hf'
 match xs,hlen with
 | [y0,y1,y2],_=>
 have g0:=EM 0 f0 rfl;have g1:=EM 1 f1 rfl;have g2:=EM 2 f2 rfl;simp [Value.cells,o0,o1,o2,h0,h1,h2,cc,cs1,cf] at g0 g1 g2
 obtain ⟨a,b,rfl,rfl,ia,ib⟩:=lR hc hc0 hc1 hi oc0 oc1 ci g0;obtain ⟨n,d,rfl,rfl,in',id'⟩:=lR hf hf0 hf1 hi of0 of1 ci g2;obtain ⟨l,hp⟩:=mU hl he t0 t1 t2 hi ce q0 q1 q2 ci g1;exact ⟨a,b,n,d,v2,l,rfl,ia,ib,in',id',hp⟩
theorem open_3i {H:Type} {enc:TypeId × Value→H} {P:Program} {w:World} {base b0:Nat} {spare:Nat→Bool} {held:Bool} {r:Reach} {t ti:TypeId} {f0 f1 f2:Field} {v:Value} {d:DataW H} {p:List MemPlace} (hs:P.underlying t=some (.struct #[f0,f1,f2])) (h0:f0.type=ti) (h1:f1.type=ti) (h2:f2.type=ti) (hi:P.underlying ti=some (.int .i64)) (hone:oneCellFields P #[f0,f1,f2]=true) (hC:P.cellsOf t=3)
  (hv:Value.okWide P w r b0 t v) (h:DataW.Trod enc P w base spare held t v d p) :
  ∃ a b c,v=.agg #[.int .i64 a,.int .i64 b,.int .i64 c]∧M.CB a∧M.CB b∧M.CB c:=by
 obtain ⟨v0,v1,v2,y0,y1,y2,n,rfl,-,-,g0,g1,g2⟩:=open_agg3 hs hone hC hv h;rw [h0] at g0;rw [h1] at g1;rw [h2] at g2;obtain ⟨a,ea,-,wa⟩:=DataW.trod_int hi g0;obtain ⟨b,eb,-,wb⟩:=DataW.trod_int hi g1;obtain ⟨c,ec,-,wc⟩:=DataW.trod_int hi g2;simp only [List.cons.injEq,and_true] at ea eb ec;subst ea eb ec;exact ⟨a,b,c,rfl,M.fE wa,M.fE wb,M.fE wc⟩
end
end Go.Proofs.YtgfkcoablfjbcaaGreat
