/-
  Joined texts: contracts and plain lemmas.
-/
import Derived.Test.YtgfkcoablfjbcaaGreatV1
import Derived.Test.YtgfkcoablfjbcaaGreatV28
import Derived.Test.YtgfkcoablfjbcaaGreatRows
import Derived.WalkKit
import Derived.ProofKit
import Derived.OpenShut
import Derived.Lib.SmallJoins
import Derived.Below
import Derived.Carry
import Derived.Deep.Slices
set_option linter.unusedSimpArgs false
set_option linter.unusedVariables false
set_option maxRecDepth 100000
set_option maxHeartbeats 8000000
namespace Go.Proofs.YtgfkcoablfjbcaaGreat
section
open Go.RowKit Go.Shelf
theorem mI:(29:TypeId)≠EPt.t:=by show (29:TypeId)≠57;decide
theorem jG:(64:TypeId)≠EPt.t:=by show (64:TypeId)≠57;decide
theorem gG:(47:TypeId)≠EPt.t:=by show (47:TypeId)≠57;decide
def f8 (w:World) (gc gf gr base:Nat) (a b n d:Int) (T:TypeId) (fs:Array Value) (l:List Pt) (k:Nat) (v:Nat→Value) (W:World):Prop:=match k with
 | 0=>McS w gc gf gr base a b T fs #[.int .i64 0,.int .i64 0,.slice none 0 0,.int .i64 0,.int .i64 0] W
 | 1=>McS w gc gf gr base a b T fs #[.int .i64 0,.int .i64 0,.slice none 0 0,.int .i64 0,.int .i64 0] W∧Rw.Own EPt W base (v 1) []
 | k+2=>eN 3 6 w gc gf gr base a b n d T fs l (k+1) v W
theorem f8.congr {w:World} {gc gf gr base:Nat} {a b n d:Int} {T:TypeId} {fs:Array Value} {l:List Pt} {k:Nat} {v v':Nat→Value} {W:World} (h0:v 1=v' 1) (h1:v 3=v' 3) (h2:v 6=v' 6) (h:f8 w gc gf gr base a b n d T fs l k v W):f8 w gc gf gr base a b n d T fs l k v' W:=by
 match k,h with
 | 0,h=>exact h
 | 1,h=>unfold f8 at *;rw [←h0];exact h
 | k+2,h=>exact eN.congr (k:=k+1) h1 h2 h
theorem f8.st {w:World} {gc gf gr base:Nat} {a b n d:Int} {T:TypeId} {fs:Array Value} {l:List Pt} {k:Nat} {v:Nat→Value} {W:World} (h:f8 w gc gf gr base a b n d T fs l k v W):∃ zs,McS w gc gf gr base a b T fs zs W:=by
 match k,h with
 | 0,h=>exact ⟨_,h⟩
 | 1,h=>exact ⟨_,h.1⟩
 | k+2,h=>exact eN.st (k:=k+1) h
theorem M.pc {a b:Int} {l:List Pt} (h:M.ch a b l=false):M.cJ a b l=false:=by unfold M.cJ;rw [h];rfl
theorem M.tE {a b:Int} {l:List Pt} (h:M.ch a b l=true):M.cJ a b l=M.eF a b l:=by unfold M.cJ;rw [h];rfl
theorem xA {a b:Int} {l:List Pt} {w:World} {base:Nat} (h:M.cJ a b l=false) (n d:Int):(Value.tuple #[.agg #[.int .i64 0,.int .i64 0,.slice none 0 0,.int .i64 0,.int .i64 0],.bool false])=.tuple #[.agg #[.int .i64 (M.pick (M.cJ a b l) a),.int .i64 (M.pick (M.cJ a b l) b),.slice none 0 0,.int .i64 (M.pick (M.cJ a b l) n),.int .i64 (M.pick (M.cJ a b l) d)],.bool (M.cJ a b l)]∧Rw.Own EPt w base (.slice none 0 0) (if M.cJ a b l=true then l else []):=by
 rw [h]
 exact ⟨rfl,Rw.Own.nil EPt _ _⟩
theorem se (a b:Int) (v:Value) (l:List Pt) (w:World) (hx:dr w v l) (hn:l.length≤4000000) :
  Calls Tryz.prog 44 #[.agg #[.int .i64 a,.int .i64 b],v] w fun e w'=>∃ v',e=.returned (.tuple #[.agg #[.int .i64 (M.pick (M.cJ a b l) a),.int .i64 (M.pick (M.cJ a b l) b),v',.int .i64 (M.pick (M.cJ a b l) (M.mcN a b l)),.int .i64 (M.pick (M.cJ a b l) (M.mcD a b l))],.bool (M.cJ a b l)])∧Rw.Own EPt w' w.heap.size v' (if M.cJ a b l=true then l else [])∧Below w.heap.size w w':=by
 obtain ⟨sa,cap,rfl⟩:=slV hx
 have PL:=fun W h=>oO a b (.slice sa l.length cap) l W h hn
 have hno:=fun W h=>xA (a:=a) (b:=b) (l:=l) (w:=W) (base:=w.heap.size) h (M.mcN a b l) (M.mcD a b l)
 obtain ⟨wc,hw3,C,R,B⟩:=iY w #[.int .i64 a,.int .i64 b] 29 #[.int .i64 0,.int .i64 0,.slice none 0 0,.int .i64 0,.int .i64 0] 47
 have hxc:=xK (hx.below B)
 have Hx:=xK hx
 have C_c0:=C.box.c0
 have C_c1:=C.box.c1
 have ⟨r0,r1,r2,r3,r4⟩:=R.dC
 have ⟨r5,r6,r7,r8,r9,_⟩:=R.iE
 have hzz:w.heap.size+2≤wc.heap.size:=by have:=R.lt;omega
 have hcap:=xK hn
 clear hx hn
 cases hp:M.ch a b l with
 | false=>
  have hfin:=xK fun W=>hno W (M.pc hp)
  rw [hp] at PL
  replace PL:=xK PL
  clear hno
  generalize hq:M.cJ a b l=ok at *
  obtain rfl:ok=false:=hq.symm.trans (M.pc hp)
  clear hq hp
  generalize M.mcN a b l=n at *
  generalize M.mcD a b l=d at *
  go_enter Tryz.func44,Tryz.ntmps44
  go_wp2_with (go_at_call 60;(refine (PL.out _ hxc.out).mono ?_);rintro e w4 ⟨rfl,hb4⟩;(replace B:=B.trans (hb4.mono B.size));(replace R:=R.keep hb4);(have ⟨r0,r1,r2,r3,r4⟩:=R.dC);(have ⟨r5,r6,r7,r8,r9,_⟩:=R.iE))
  exact bodyPost_ret (v:=.tuple #[.agg #[.int .i64 0,.int .i64 0,.slice none 0 0,.int .i64 0,.int .i64 0],.bool false]) (by simp [results,Tryz.results44,go_sem, *]) rfl (⟨.slice none 0 0,by rw [(hfin.out w).1],(hfin.out _).2,xM (xM (xM (xM (xM B (by simp) _) (by simp) _) (by simp) _) (by simp) _) (by simp) _⟩)
 | true=>
 rw [hp] at PL
 have hmk:=M.tE hp
 obtain ⟨hg,h1,hn,hpt⟩:=M.jx hp
 have RG:=fun W h=>kI a b (.slice sa l.length cap) l W h hg h1 hn hpt
 have hok:M.cJ a b l=((M.ck a b l).isSome && decide (M.in1 (M.ck a b l) > 0)):=by rw [hmk,M.uH M.ph];rfl
 have hN:M.mcN a b l=M.in1 (M.ck a b l):=rfl
 have hD:M.mcD a b l=M.in2 (M.ck a b l):=rfl
 rw [hN,hD] at hno ⊢
 clear hmk hN hD hg h1 hn hpt hp
 generalize M.cJ a b l=ok at *
 generalize M.ck a b l=rs at *
 generalize rs.isSome=fl at *
 generalize M.in1 rs=n at *
 generalize M.in2 rs=d at *
 generalize M.in3 rs=n3 at *
 generalize M.in4 rs=n4 at *
 replace RG:=xK RG
 replace PL:=xK PL
 replace hno:=xK hno
 cases fl with
 | false=>
  obtain rfl:ok=false:=hok
  have hfin:=xK fun W=>hno.out W rfl
  clear hno
  go_enter Tryz.func44,Tryz.ntmps44
  go_wp2_with first | (go_at_call 60;(refine (PL.out _ hxc.out).mono ?_);rintro e w3 ⟨rfl,hb3⟩;(have hz3:=hb3.size);(replace B:=B.trans (hb3.mono B.size));(replace R:=R.keep hb3);(replace C:=C.keep hb3);(have hxd:=xK (hxc.out.below hb3));(clear C_c0 C_c1);(have C_c0:=C.box.c0);(have C_c1:=C.box.c1)) | (go_at_call 33;(refine (RG.out _ hxd.out).mono ?_);rintro e w4 ⟨rfl,hb4⟩;(have Ba:=(xN w4.heap.size w4).alloc (xO _) (.cells #[.int .i64 n,.int .i64 d,.int .i64 n3,.int .i64 n4] 64));(have S:=aH.new w4 #[.int .i64 n,.int .i64 d,.int .i64 n3,.int .i64 n4] 64);(have hz4:=hb4.size);(replace B:=(B.trans (hb4.mono B.size)).trans (Ba.mono (Nat.le_trans B.size hb4.size)));(replace R:=(R.keep hb4).keep Ba);(replace C:=(C.keep hb4).keep Ba);(have ⟨s0,_,_,_,_,_,_,_,_⟩:=S.aM);(have ⟨r0,r1,r2,r3,r4⟩:=R.dC);(have ⟨r5,r6,r7,r8,r9,_⟩:=R.iE))
  exact bodyPost_ret (v:=.tuple #[.agg #[.int .i64 0,.int .i64 0,.slice none 0 0,.int .i64 0,.int .i64 0],.bool false]) (by simp [results,Tryz.results44,go_sem, *]) rfl (⟨.slice none 0 0,by rw [(hfin.out w).1],(hfin.out _).2,xM (xM (xM (xM (xM B (by simp) _) (by simp) _) (by simp) _) (by simp) _) (by simp) _⟩)
 | true=>
 by_cases hpos:n > 0
 ·have hd:decide (n≤0)=false:=decide_eq_false (by omega)
  obtain rfl:ok=true:=hok.trans (decide_eq_true hpos)
  clear hok hno
  go_enter Tryz.func44,Tryz.ntmps44
  go_upto_region 6 with first | (go_at_call 60;(refine (PL.out _ hxc.out).mono ?_);rintro e w3 ⟨rfl,hb3⟩;(have hz3:=hb3.size);(replace B:=B.trans (hb3.mono B.size));(replace R:=R.keep hb3);(replace C:=C.keep hb3);(have hxd:=xK (hxc.out.below hb3));(clear C_c0 C_c1);(have C_c0:=C.box.c0);(have C_c1:=C.box.c1)) | (go_at_call 33;(refine (RG.out _ hxd.out).mono ?_);rintro e w4 ⟨rfl,hb4⟩;(have Ba:=(xN w4.heap.size w4).alloc (xO _) (.cells #[.int .i64 n,.int .i64 d,.int .i64 n3,.int .i64 n4] 64));(have S:=aH.new w4 #[.int .i64 n,.int .i64 d,.int .i64 n3,.int .i64 n4] 64);(have hz4:=hb4.size);(replace B:=(B.trans (hb4.mono B.size)).trans (Ba.mono (Nat.le_trans B.size hb4.size)));(replace R:=(R.keep hb4).keep Ba);(replace C:=(C.keep hb4).keep Ba);(have ⟨s0,_,_,_,_,_,_,_,_⟩:=S.aM);(have ⟨r0,r1,r2,r3,r4⟩:=R.dC);(have ⟨r5,r6,r7,r8,r9,_⟩:=R.iE);(have J0:=xK (McS.mk B C S R (by omega) (by omega) (by omega) (show w.heap.size+1<w4.heap.size+1 by omega) (by rw [xL];omega))))
  refine Rg.p9 (fun k v W=>f8 w w.heap.size w4.heap.size (w.heap.size+1) (w4.heap.size+1) a b n d 64 #[.int .i64 n,.int .i64 d,.int .i64 n3,.int .i64 n4] l k v W) [1,3,6,7] [.agg #[.int .i64 a,.int .i64 b],undef,.slice sa l.length cap,undef,.pointer (some ⟨w4.heap.size,0,none⟩),.agg #[.int .i64 n,.int .i64 d],undef,undef,.bool true] (by kernel_rfl) (by kernel_rfl) (by kernel_rfl) (by decide) (fun k v v2 W h hj=>f8.congr (h 1 (by decide)) (h 3 (by decide)) (h 6 (by decide)) hj) (fun _=>J0.out.keep (xN _ _).drew) ⟨?_,?_,?_,?_,?_,?_,?_,?_,?_,trivial⟩ ?_
  ·unfold Rg.aj
   rw [if_neg (by decide)]
   intro ac_ w_ n_ vals_ hn_ hJ hr
   refine ⟨rfl,?_⟩
   have e2:ac_.tmps[2]?=some (.pointer (some ⟨w.heap.size,0,none⟩)):=hr 2 (by decide)
   obtain ⟨zs_,hs_⟩:=f8.st hJ
   have k0:=hs_.C.box.c0
   have k1:=hs_.C.box.c1
   (first | (go_simp;done) | (go_simp;exact Rg.wr (by omega) (by omega)) | (go_simp;omega) | (go_simp;rfl))
  ·unfold Rg.aj
   rw [if_pos (by decide)]
   intro ac_ w_ vals_ hJ hr
   refine ⟨rfl,?_⟩
   have h0_:McS w w.heap.size w4.heap.size (w.heap.size+1) (w4.heap.size+1) a b 64 #[.int .i64 n,.int .i64 d,.int .i64 n3,.int .i64 n4] #[.int .i64 0,.int .i64 0,.slice none 0 0,.int .i64 0,.int .i64 0] w_:=hJ
   refine Rg.sw (x:=.slice (some ⟨w_.heap.size,0,none⟩) 0 0) (ob:=.cells #[] 57) (by (first | (go_simp;done) | (go_simp;exact Rg.wr (by omega) (by omega)) | (go_simp;omega) | (go_simp;rfl))) ?_
   exact ⟨h0_.keep (bA _ _),Rw.Own.qY EPt w_ _ h0_.hb⟩
  ·unfold Rg.aj
   rw [if_neg (by decide)]
   intro ac_ w_ n_ vals_ hn_ hJ hr
   refine ⟨rfl,?_⟩
   have e1:ac_.tmps[1]?=some (.slice sa l.length cap):=hr 1 (by decide)
   go_simp
  ·unfold Rg.aj
   rw [if_pos (by decide)]
   intro ac_ w_ vals_ hJ hr
   have e29:ac_.tmps[29]?=some (vals_ 1):=hr 29 (by decide)
   have e30:ac_.tmps[30]?=some (.slice sa l.length cap):=hr 30 (by decide)
   refine ⟨rfl,?_⟩
   obtain ⟨h0_,ho_⟩:McS w w.heap.size w4.heap.size (w.heap.size+1) (w4.heap.size+1) a b 64 #[.int .i64 n,.int .i64 d,.int .i64 n3,.int .i64 n4] #[.int .i64 0,.int .i64 0,.slice none 0 0,.int .i64 0,.int .i64 0] w_∧Rw.Own EPt w_ (w4.heap.size+1) (vals_ 1) []:=hJ
   obtain ⟨A_,c_,q_,hf_⟩:=(Hx.out.below h0_.B).from'
   injection q_ with q1_ q2_ q3_
   subst q1_ q3_
   obtain ⟨v_,w5_,q1_,q2_,q3_,q4_⟩:=Rw.q7 sQ (W:=w_) (base:=(w4.heap.size+1)) 31 l sa cap (hf_ _ (xN _ _)) ho_ (xN _ _) h0_.hb (by have:=hcap.out;simp only [List.length_nil];omega)
   refine Rg.kL (x:=v_) (w2:=w5_) (Rg.gS rfl (Rg.ev e29) (Rg.ev e30) q1_) ?_
   exact ⟨h0_.grown ho_ q4_ mI jG gG,q2_⟩
  ·unfold Rg.aj
   rw [if_neg (by decide)]
   intro ac_ w_ n_ vals_ hn_ hJ hr
   refine ⟨rfl,?_⟩
   have e6:ac_.tmps[6]?=some (.pointer (some ⟨w4.heap.size,0,none⟩)):=hr 6 (by decide)
   (first | (go_simp;done) | (go_simp;exact Rg.wr (by omega) (by omega)) | (go_simp;omega) | (go_simp;rfl))
  ·unfold Rg.aj
   rw [if_neg (by decide)]
   intro ac_ w_ n_ vals_ hn_ hJ hr
   refine ⟨rfl,?_⟩
   have e32:ac_.tmps[32]?=some (.pointer (some ⟨w4.heap.size,0,none⟩)):=hr 32 (by decide)
   obtain ⟨zs_,hs_⟩:=f8.st hJ
   have ⟨k0,k1,_,_,_,_,_,_,_⟩:=hs_.F.aM
   (first | (go_simp;done) | (go_simp;exact Rg.wr (by omega) (by omega)) | (go_simp;omega) | (go_simp;rfl))
  ·unfold Rg.aj
   rw [if_pos (by decide)]
   intro ac_ w_ vals_ hJ hr
   have e28:ac_.tmps[28]?=some (.agg #[.int .i64 a,.int .i64 b]):=hr 28 (by decide)
   have e31:ac_.tmps[31]?=some (vals_ 3):=hr 31 (by decide)
   have e33:ac_.tmps[33]?=some (.agg #[.int .i64 n,.int .i64 d]):=hr 33 (by decide)
   refine ⟨rfl,?_⟩
   obtain ⟨h0_,ho_⟩:McS w w.heap.size w4.heap.size (w.heap.size+1) (w4.heap.size+1) a b 64 #[.int .i64 n,.int .i64 d,.int .i64 n3,.int .i64 n4] #[.int .i64 0,.int .i64 0,.slice none 0 0,.int .i64 0,.int .i64 0] w_∧Rw.Own EPt w_ (w4.heap.size+1) (vals_ 3) l:=hJ
   obtain ⟨A_,c_,q_⟩:=slV ho_.seen.pts
   rw [q_] at e31
   refine Rg.kL (x:=.agg #[.int .i64 a,.int .i64 b,.slice A_ l.length c_,.int .i64 n,.int .i64 d]) (w2:=w_) (by (first | (go_simp;done) | (go_simp;exact Rg.wr (by omega) (by omega)) | (go_simp;omega) | (go_simp;rfl))) ?_
   exact ⟨⟨h0_,ho_⟩,by show Value.agg _=Value.agg #[.int .i64 a,.int .i64 b,(vals_ 3),.int .i64 n,.int .i64 d];rw [q_]⟩
  ·unfold Rg.aj
   rw [if_pos (by decide)]
   intro ac_ w_ vals_ hJ hr
   have e4:ac_.tmps[4]?=some (.pointer (some ⟨w.heap.size+1,0,none⟩)):=hr 4 (by decide)
   have e34:ac_.tmps[34]?=some (vals_ 6):=hr 34 (by decide)
   refine ⟨rfl,?_⟩
   have hJ:eN 3 6 w w.heap.size w4.heap.size (w.heap.size+1) (w4.heap.size+1) a b n d 64 #[.int .i64 n,.int .i64 d,.int .i64 n3,.int .i64 n4] l 2 vals_ w_:=hJ
   obtain ⟨⟨h0_,ho_⟩,e4_⟩:(McS w w.heap.size w4.heap.size (w.heap.size+1) (w4.heap.size+1) a b 64 #[.int .i64 n,.int .i64 d,.int .i64 n3,.int .i64 n4] #[.int .i64 0,.int .i64 0,.slice none 0 0,.int .i64 0,.int .i64 0] w_∧Rw.Own EPt w_ (w4.heap.size+1) (vals_ 3) l)∧vals_ 6=.agg #[.int .i64 a,.int .i64 b,vals_ 3,.int .i64 n,.int .i64 d]:=hJ
   obtain ⟨A_,c_,q_⟩:=slV ho_.seen.pts
   have hF_:=eN.store (v':=Rg.dM vals_ 7 undef) hJ q_.symm rfl rfl
   rw [e4_,q_] at e34
   have ⟨y0,y1,y2,y3,y4⟩:=h0_.R.dC
   have ⟨y5,y6,y7,y8,y9,_⟩:=h0_.R.iE
   clear h0_ ho_ hJ e4_ q_
   unfold Oper.wp
   go_simp
   all_goals first | exact ⟨undef,hF_⟩ | exact ⟨_,rfl,hF_⟩ | exact hF_
  ·unfold Rg.aj
   rw [if_neg (by decide)]
   intro ac_ w_ n_ vals_ hn_ hJ hr
   refine ⟨rfl,?_⟩
   have ec:=Rg.ec ac_
   go_simp
  intro vals wz hJ hv
  have v_8:vals 8=.bool true:=hv 8 (by decide) (by decide)
  simp only [Rg.an,Rg.fill,Act.put,Nat.reduceAdd]
  clear hv
  simp only [v_8]
  clear v_8
  obtain ⟨⟨hS,hO⟩,hE⟩:(McS w w.heap.size w4.heap.size (w.heap.size+1) (w4.heap.size+1) a b 64 #[.int .i64 n,.int .i64 d,.int .i64 n3,.int .i64 n4] #[.int .i64 a,.int .i64 b,vals 3,.int .i64 n,.int .i64 d] wz∧Rw.Own EPt wz (w4.heap.size+1) (vals 3) l)∧vals 6=.agg #[.int .i64 a,.int .i64 b,vals 3,.int .i64 n,.int .i64 d]:=hJ
  obtain ⟨A2,c2,q2⟩:=slV hO.seen.pts
  rw [q2] at hS hO
  rw [hE,q2]
  have R2:=hS.R
  have ⟨r0,r1,r2,r3,r4⟩:=R2.dC
  have BB:=hS.B
  have hO:=xK (hO.down (base':=w.heap.size) (by omega))
  clear J0 hS hE
  go_wp2
  exact bodyPost_ret (v:=.tuple #[.agg #[.int .i64 a,.int .i64 b,.slice A2 l.length c2,.int .i64 n,.int .i64 d],.bool true]) (by simp [results,Tryz.results44,go_sem, *]) rfl (⟨_,rfl,hO.out,BB⟩)
 have hd:decide (n≤0)=true:=decide_eq_true (by omega)
 obtain rfl:ok=false:=hok.trans (decide_eq_false hpos)
 have hfin:=xK fun W=>hno.out W rfl
 clear hok hno
 go_enter Tryz.func44,Tryz.ntmps44
 go_wp2_with first | (go_at_call 60;(refine (PL.out _ hxc.out).mono ?_);rintro e w3 ⟨rfl,hb3⟩;(have hz3:=hb3.size);(replace B:=B.trans (hb3.mono B.size));(replace R:=R.keep hb3);(replace C:=C.keep hb3);(have hxd:=xK (hxc.out.below hb3));(clear C_c0 C_c1);(have C_c0:=C.box.c0);(have C_c1:=C.box.c1)) | (go_at_call 33;(refine (RG.out _ hxd.out).mono ?_);rintro e w4 ⟨rfl,hb4⟩;(have Ba:=(xN w4.heap.size w4).alloc (xO _) (.cells #[.int .i64 n,.int .i64 d,.int .i64 n3,.int .i64 n4] 64));(have S:=aH.new w4 #[.int .i64 n,.int .i64 d,.int .i64 n3,.int .i64 n4] 64);(have hz4:=hb4.size);(replace B:=(B.trans (hb4.mono B.size)).trans (Ba.mono (Nat.le_trans B.size hb4.size)));(replace R:=(R.keep hb4).keep Ba);(replace C:=(C.keep hb4).keep Ba);(have ⟨s0,_,_,_,_,_,_,_,_⟩:=S.aM);(have ⟨r0,r1,r2,r3,r4⟩:=R.dC);(have ⟨r5,r6,r7,r8,r9,_⟩:=R.iE))
 exact bodyPost_ret (v:=.tuple #[.agg #[.int .i64 0,.int .i64 0,.slice none 0 0,.int .i64 0,.int .i64 0],.bool false]) (by simp [results,Tryz.results44,go_sem, *]) rfl (⟨.slice none 0 0,by rw [(hfin.out w).1],(hfin.out _).2,xM (xM (xM (xM (xM B (by simp) _) (by simp) _) (by simp) _) (by simp) _) (by simp) _⟩)
theorem fS (a b:Int) (v:Value) (l:List Pt) (w:World) (hx:dr w v l) (hn:l.length≤4000000) :
  Calls Tryz.prog 23 #[.agg #[.int .i64 a,.int .i64 b],v] w fun e w'=>∃ v',e=.returned (.tuple #[.agg #[.int .i64 (M.pick (M.cJ a b l) a),.int .i64 (M.pick (M.cJ a b l) b),v',.int .i64 (M.pick (M.cJ a b l) (M.mcN a b l)),.int .i64 (M.pick (M.cJ a b l) (M.mcD a b l))],.bool (M.cJ a b l)])∧Rw.Own EPt w' w.heap.size v' (if M.cJ a b l=true then l else [])∧Below w.heap.size w w':=by
 obtain ⟨sa,cap,rfl⟩:=slV hx
 have MK:=fun W h=>se a b (.slice sa l.length cap) l W h hn
 obtain ⟨wc,hw3,C,R,B⟩:=iY w #[.int .i64 a,.int .i64 b] 29 #[.int .i64 0,.int .i64 0,.slice none 0 0,.int .i64 0,.int .i64 0] 47
 have hxc:=xK (hx.below B)
 have C_c0:=C.box.c0
 have C_c1:=C.box.c1
 clear hx
 generalize M.pick (M.cJ a b l) a=x1 at *
 generalize M.pick (M.cJ a b l) b=x2 at *
 generalize M.pick (M.cJ a b l) (M.mcN a b l)=x3 at *
 generalize M.pick (M.cJ a b l) (M.mcD a b l)=x4 at *
 generalize (if M.cJ a b l=true then l else [])=L at *
 generalize M.cJ a b l=ok at *
 replace MK:=xK MK
 have hzB:=B.size
 go_enter Tryz.func23,Tryz.ntmps23
 go_wp2_with (go_at_call 44;(refine (MK.out _ hxc.out).mono ?_);rintro e w7 ⟨v7,rfl,o7,hb7⟩;obtain ⟨A7,c7,rfl⟩:=slV o7.seen.pts;(have hlr:=R.lt);(replace B:=B.trans (hb7.mono B.size));(replace R:=R.keep hb7);(replace o7:=xK o7);(have ⟨r0,r1,r2,r3,r4⟩:=R.dC);(have ⟨r5,r6,r7,r8,r9,_⟩:=R.iE))
 exact bodyPost_ret (v:=.tuple #[.agg #[.int .i64 x1,.int .i64 x2,.slice A7 L.length c7,.int .i64 x3,.int .i64 x4],.bool ok]) (by simp [results,Tryz.results23,go_sem, *]) rfl (⟨_,rfl,(o7.out.wB (Nat.lt_of_lt_of_le hlr (xO _)) _ _ _ _ _).down (by omega),xM (xM (xM (xM (xM B (by simp) _) (by simp) _) (by simp) _) (by simp) _) (by simp) _⟩)
theorem fQ (a b:Int) (v:Value) (l:List Pt) (w:World) (hx:dr w v l) (hn:l.length≤4000000) :
  Calls Tryz.prog 24 #[.agg #[.int .i64 a,.int .i64 b],v] w fun e w'=>∃ v',e=.returned (.tuple #[.agg #[.int .i64 (M.pick (M.cJ a b l) a),.int .i64 (M.pick (M.cJ a b l) b),v',.int .i64 (M.pick (M.cJ a b l) (M.mcN a b l)),.int .i64 (M.pick (M.cJ a b l) (M.mcD a b l))],.bool (M.cJ a b l)])∧Rw.Own EPt w' w.heap.size v' (if M.cJ a b l=true then l else [])∧Below w.heap.size w w':=by
 obtain ⟨sa,cap,rfl⟩:=slV hx
 have PL:=fun W h=>nF a b (.slice sa l.length cap) l W h hn
 have hno:=fun W h=>xA (a:=a) (b:=b) (l:=l) (w:=W) (base:=w.heap.size) h (M.mcN a b l) (M.mcD a b l)
 obtain ⟨wc,hw3,C,R,B⟩:=iY w #[.int .i64 a,.int .i64 b] 29 #[.int .i64 0,.int .i64 0,.slice none 0 0,.int .i64 0,.int .i64 0] 47
 have hxc:=xK (hx.below B)
 have C_c0:=C.box.c0
 have C_c1:=C.box.c1
 clear hx
 cases hp:M.ch a b l with
 | false=>
  have hfin:=xK fun W=>hno W (M.pc hp)
  rw [hp] at PL
  replace PL:=xK PL
  clear hno
  generalize hq:M.cJ a b l=ok at *
  obtain rfl:ok=false:=hq.symm.trans (M.pc hp)
  clear hq hp
  generalize M.mcN a b l=n at *
  generalize M.mcD a b l=d at *
  go_enter Tryz.func24,Tryz.ntmps24
  go_wp2_with (go_at_call 34;(refine (PL.out _ hxc.out).mono ?_);rintro e w4 ⟨rfl,hb4⟩;(replace B:=B.trans (hb4.mono B.size));(replace R:=R.keep hb4);(replace C:=C.keep hb4);(have hxd:=xK (hxc.out.below hb4));(have hzB:=B.size);(have C_c0:=C.box.c0);(have C_c1:=C.box.c1);(have ⟨r0,r1,r2,r3,r4⟩:=R.dC);(have ⟨r5,r6,r7,r8,r9,_⟩:=R.iE))
  exact bodyPost_ret (v:=.tuple #[.agg #[.int .i64 0,.int .i64 0,.slice none 0 0,.int .i64 0,.int .i64 0],.bool false]) (by simp [results,Tryz.results24,go_sem, *]) rfl (⟨.slice none 0 0,by rw [(hfin.out w).1],(hfin.out _).2,xM (xM (xM (xM (xM B (by simp) _) (by simp) _) (by simp) _) (by simp) _) (by simp) _⟩)
 | true=>
 rw [hp] at PL
 have hmk:=M.tE hp
 obtain ⟨hg,h1,hn4,hpt⟩:=M.jx hp
 have MK:=fun W h=>ge a b (.slice sa l.length cap) l W h hg h1 hn4 hpt
 rw [hmk]
 clear hno hmk hg h1 hn4 hpt hp hn
 generalize M.pick (M.eF a b l) a=x1 at *
 generalize M.pick (M.eF a b l) b=x2 at *
 generalize M.pick (M.eF a b l) (M.mcN a b l)=x3 at *
 generalize M.pick (M.eF a b l) (M.mcD a b l)=x4 at *
 generalize (if M.eF a b l=true then l else [])=L at *
 generalize M.eF a b l=ok at *
 replace MK:=xK MK
 replace PL:=xK PL
 go_enter Tryz.func24,Tryz.ntmps24
 go_wp2_with first | (go_at_call 34;(refine (PL.out _ hxc.out).mono ?_);rintro e w4 ⟨rfl,hb4⟩;(replace B:=B.trans (hb4.mono B.size));(replace R:=R.keep hb4);(replace C:=C.keep hb4);(have hxd:=xK (hxc.out.below hb4));(have hzB:=B.size);(have C_c0:=C.box.c0);(have C_c1:=C.box.c1);(have ⟨r0,r1,r2,r3,r4⟩:=R.dC);(have ⟨r5,r6,r7,r8,r9,_⟩:=R.iE)) | (go_at_call 45;(refine (MK.out _ hxd.out).mono ?_);rintro e w7 ⟨v7,rfl,o7,hb7⟩;obtain ⟨A7,c7,rfl⟩:=slV o7.seen.pts;(have hlr:=R.lt);(replace B:=B.trans (hb7.mono B.size));(replace R:=R.keep hb7);(replace o7:=xK o7);(have ⟨r0,r1,r2,r3,r4⟩:=R.dC);(have ⟨r5,r6,r7,r8,r9,_⟩:=R.iE))
 exact bodyPost_ret (v:=.tuple #[.agg #[.int .i64 x1,.int .i64 x2,.slice A7 L.length c7,.int .i64 x3,.int .i64 x4],.bool ok]) (by simp [results,Tryz.results24,go_sem, *]) rfl (⟨_,rfl,(o7.out.wB (Nat.lt_of_lt_of_le hlr (xO _)) _ _ _ _ _).down (by omega),xM (xM (xM (xM (xM B (by simp) _) (by simp) _) (by simp) _) (by simp) _) (by simp) _⟩)
end
section
open Go.ChangeShapes Go.WideShapes Go.ChangeAt Go.RowKit Go.Joins Go.Deep
theorem own:ownKnob Tryz.prog.godebug=none:=by kernel_rfl
theorem laidOut:laidOutB Tryz.prog=true:=by kernel_rfl
theorem M.kV {a:Int} (h:(Lit.int .i64 a).wf=true):M.I64 a:=by
 have:=bounds_i64 h
 exact this
section
variable {H:Type} {enc:TypeId × Value→H} {P:Program} {w:World} {base:Nat} {spare:Nat→Bool} {held:Bool}
theorem open_2i {r:Reach} {b0:Nat} {t ti:TypeId} {f0 f1:Field} {v:Value} {d:DataW H} {p:List MemPlace} (hs:P.underlying t=some (.struct #[f0,f1])) (h0:f0.type=ti) (h1:f1.type=ti) (hi:P.underlying ti=some (.int .i64)) (hone:oneCellFields P #[f0,f1]=true) (hC:P.cellsOf t=2)
  (hv:Value.okWide P w r b0 t v) (h:DataW.Trod enc P w base spare held t v d p) :
  ∃ a b,v=.agg #[.int .i64 a,.int .i64 b]∧M.I64 a∧M.I64 b:=by
 obtain ⟨v0,v1,y0,y1,n,rfl,-,-,g0,g1⟩:=open_agg2 hs hone hC hv h
 rw [h0] at g0
 rw [h1] at g1
 obtain ⟨a,ea,-,wa⟩:=DataW.trod_int hi g0
 obtain ⟨b,eb,-,wb⟩:=DataW.trod_int hi g1
 simp only [List.cons.injEq,and_true] at ea eb
 subst ea eb
 exact ⟨a,b,rfl,M.kV wa,M.kV wb⟩
theorem gE (hl:laidOutB P=true):∀ (ts:List TypeId) (hts:∀ t ∈ ts,P.readableRec t=true∧t<P.types.size) {W W':World} {vs:List Value} {ds:List (DataW H)} {ps:List MemPlace}
  (_:DataW.TrodAll enc P W 0 (fun _=>true) true ts vs ds ps) (_:Below W.heap.size W W') (_:∀ x ∈ ps,x.block<W.heap.size),DataW.TrodAll enc P W' 0 (fun b=>decide (b<W.heap.size)) true ts vs ds ps
 | [],_,_,_,_,_,_,h,_,_=>by
  obtain ⟨rfl,rfl,rfl⟩:=trodAll_nil h
  exact trodAll_mk0
 | t :: ts,hts,_,_,_,_,_,h,hb,hlt=>by
  obtain ⟨v,vs',d,ds',p,q,rfl,rfl,rfl,h1,h2⟩:=trodAll_cons h
  refine ⟨p,q,Below.trod hl (hts t List.mem_cons_self).1 (hts t List.mem_cons_self).2 h1 hb fun x hx=>hlt x (List.mem_append_left _ hx),?_,rfl⟩
  exact gE hl ts (fun t' ht'=>hts t' (List.mem_cons_of_mem _ ht')) h2 hb fun x hx=>hlt x (List.mem_append_right _ hx)
theorem law_post {f:Func} {s:ChangeSpec} {W W':World} {args:Array Value} {ds:List (DataW H)} {before:List MemPlace} {tb:TypeId}
  (hl:laidOutB P=true) (hts:∀ t ∈ f.params.toList,P.readableRec t=true∧t<P.types.size)
  (hvars:s.vars=[]) (hf:s.fn H ds={ results:=[.lit (.bool true)],args:=ds }) (hrt:f.resultTypes=#[tb]) (hbool:P.underlying tb=some .bool)
  (hW:DataW.Whole enc P f.params.toList s.vars false W args.toList ds [] before) (hb:Below W.heap.size W W') :
  s.post enc P f false true false false W args (.bool true) W':=by
 have hlt:∀ p ∈ before,p.block<W.heap.size:=fun p hp=>hW.lt p hp
 obtain ⟨p,q,hA,hV,hpq,hz,hn⟩:=id hW
 rw [hvars] at hV
 obtain ⟨_,rfl⟩:=trodVars_none hV
 have hbp:before=p:=by simpa using hpq
 subst hbp
 have e1:s.fn H (ds ++ [])={ results:=[.lit (.bool true)],args:=ds }:=by rw [List.append_nil];exact hf
 refine ⟨ds,[],before,[],before,[],hW,?_,?_,?_,World.keptBut_mono (fun x hx=>⟨hx,Or.inr (Or.inl hx)⟩) (hb.frame (· ∈ before)),fun h=>by cases h⟩
 ·rw [e1,hrt]
  exact trodAll_mk1 (shut_bool hbool true)
 ·rw [e1]
  exact gE hl _ hts hA hb hlt
 rw [e1,hvars]
 exact rfl
end
def np (w:World) (v:Value) (xs:List Int):Prop:=
 ∃ (A:Option Addr) (cap:Nat),v=.slice A xs.length cap∧(xs.length:Int)≤9223372036854775807∧
  ∀ k,k<xs.length→∃ g o x,A=some ⟨g,o,none⟩∧g<w.heap.size∧Hid (xs[k]?=some x)∧w.cell? ⟨g,o+k,none⟩=some (.int .i64 x)
theorem np.keep {w w':World} {v:Value} {xs:List Int} (h:np w v xs) (hb:Below w.heap.size w w'):np w' v xs:=by
 obtain ⟨A,cap,rfl,hm,hv⟩:=h
 refine ⟨A,cap,rfl,hm,fun k hk=>?_⟩
 obtain ⟨g,o,x,hA,hg,hx,h0⟩:=hv k hk
 exact ⟨g,o,x,hA,Nat.lt_of_lt_of_le hg hb.size,hx,aE hb h0⟩
theorem open_points {H:Type} {enc:TypeId × Value→H} {P:Program} {w:World} {base b0:Nat} {held:Bool} {r:Reach} {t te ti:TypeId} {f0 f1 f2:Field} {v:Value} {d:DataW H} {ps:List MemPlace}
  (ht:P.underlying t=some (.slice te)) (he:P.underlying te=some (.struct #[f0,f1,f2])) (t0:f0.type=ti) (t1:f1.type=ti) (t2:f2.type=ti) (hi:P.underlying ti=some (.int .i64)) (ce:P.cellsOf te=3) (o0:f0.offset=0) (o1:f1.offset=1) (o2:f2.offset=2)
  (ci:P.cellsOf ti=1) (hv:Value.okWide P w r b0 t v) (h:DataW.Trod enc P w base (fun _=>true) held t v d ps) :
  ∃ xs:List Pt,dB w v xs:=by
 obtain ⟨a1,len,cap,rfl⟩:=okWide_slice ht hv
 obtain ⟨fuel,hf⟩:=h
 rcases open_slice ht hf with ⟨hcs,hx⟩ | ⟨a,len',cap',m,n,D,Pl,hcs,hb,hl,hm,hmm,hx,hall⟩
 ·simp [Value.cells] at hcs
  obtain ⟨rfl,rfl,rfl⟩:=hcs
  exact ⟨[],none,0,rfl,by simp,fun k hk=>absurd hk (by simp)⟩
 simp [Value.cells] at hcs
 obtain ⟨rfl,rfl,rfl⟩:=hcs
 simp only [if_true] at hmm
 have each:∀ i,i<len→∃ q:Pt,w.cell? (a.add (i*3))=some (.int .i64 q.1)∧w.cell? (a.add (i*3+1))=some (.int .i64 q.2.1)∧w.cell? (a.add (i*3+2))=some (.int .i64 q.2.2):=by
  intro i hi2
  obtain ⟨cs',h1,h2⟩:=hall i (by omega)
  rw [ce] at h1
  obtain ⟨_,hlen,hcell⟩:=World.cells?_some h1
  obtain ⟨xs,k,hk,hxy,_,hxl,hfd⟩:=DataW.trod_struct he h2
  match xs,hxl,cs',hlen with
  | [y0,y1,y2],_,[v0,v1,v2],_=>
  have g0:=hfd 0 f0 rfl
  have g1:=hfd 1 f1 rfl
  have g2:=hfd 2 f2 rfl
  simp [o0,o1,o2,t0,t1,t2,ci] at g0 g1 g2
  have e0:=hcell 0 (by omega)
  have e1:=hcell 1 (by omega)
  have e2:=hcell 2 (by omega)
  rw [add_add] at e0 e1 e2
  obtain ⟨x,ex,-,-⟩:=DataW.trod_int hi g0
  obtain ⟨y,ey,-,-⟩:=DataW.trod_int hi g1
  obtain ⟨z,ez,-,-⟩:=DataW.trod_int hi g2
  simp only [List.cons.injEq,and_true] at ex ey ez
  subst ex ey ez
  refine ⟨(intOf (.int .i64 x),intOf (.int .i64 y),intOf (.int .i64 z)),?_,?_,?_⟩
  ·simpa [intOf] using e0
  ·simpa [intOf] using e1
  simpa [intOf] using e2
 obtain ⟨q,hq⟩:=choose_lt each
 refine ⟨(List.range len).map q,some a,cap,by simp,by simp;unfold maxLen at hm;omega,fun k hk=>?_⟩
 have hk':k<len:=by simpa using hk
 obtain ⟨h1,h2,h3⟩:=hq k hk'
 obtain ⟨ab,ao,spot⟩:=a
 have hspot:spot=none:=by simpa [Addr.add] using World.cell?_spot (hq 0 (by omega)).1
 subst hspot
 rw [Addr.add_lit] at h1 h2 h3
 exact ⟨ab,ao,q k,rfl,World.block_lt_of_cell? w _ h1,xK (by rw [List.getElem?_map,List.getElem?_range hk'];rfl),h1,by rw [Nat.add_assoc];exact h2,by rw [Nat.add_assoc];exact h3⟩
end
section
open Go.RowKit Go.Shelf
theorem Rw.Own.wu {α:Type} {E:Rw.Enc α} {w w':World} {base:Nat} {r:Option Nat} {v:Value} {xs:List α} (h:Rw.Own E w base v xs) (hg:w.grownBy w' r) (hlt:∀ k,r=some k→k<base):Rw.Own E w' base v xs:=
 h.kept hg (fun g hg' e=>by
  have:=(h.lt g e).1
  have:=hlt g hg'
  omega)
theorem M.uV (a b:Int) (l:List Pt):(if M.cJ a b l=true then l else []).length≤4:=by
 split
 ·rename_i h
  unfold M.cJ at h
  rw [Bool.and_eq_true] at h
  exact (M.jx h.1).2.2.1
 simp
theorem law_MakeCertificate (a b:Int) (_:M.I64 a) (_:M.I64 b) (v:Value) (xs:List Pt) (w:World) (hx:dB w v xs) :
  Calls Tryz.prog 5 #[.agg #[.int .i64 a,.int .i64 b],v] w fun e w'=>e=.returned (.bool true)∧Below w.heap.size w w':=by
 have e1:=fun v w h hn=>fS a b v xs w h hn
 have e2:=fun v w h hn=>fQ a b v xs w h hn
 have hl:=M.uV a b xs
 generalize M.pick (M.cJ a b xs) a=x1 at *
 generalize M.pick (M.cJ a b xs) b=x2 at *
 generalize M.pick (M.cJ a b xs) (M.mcN a b xs)=x3 at *
 generalize M.pick (M.cJ a b xs) (M.mcD a b xs)=x4 at *
 generalize (if M.cJ a b xs=true then xs else [])=V at *
 generalize M.cJ a b xs=ok at *
 have E1:=xK e1
 have E2:=xK e2
 clear e1 e2
 have TCu:=xK fun w=>ow a b w
 have hd2:decide (xs=xs)=true:=by simp
 have EQ:=fun v u w h1 h2 hx hy p q=>jW v u xs xs w h1 h2 hx hy p q
 rw [hd2] at EQ
 have EQ:=xK EQ
 clear hd2
 have EV:=xK fun v u w h1 h2 hx hy hh1 hh2=>ie x1 x2 x3 x4 v u V w h1 h2 hx hy hh1 hh2
 have Hx:=xK hx
 by_cases hn:xs.length≤1048576
 ·have hL:0≤(1048576:Int) - xs.length:=by omega
  obtain ⟨A,cap,rfl,-,-⟩:=hx
  have TC:=fun w (h:dB w (.slice A xs.length cap) xs)=>oy (.slice A xs.length cap) xs w h hn
  have TC:=xK TC
  have HS:=fun w (h:dB w (.slice A xs.length cap) xs)=>j9 (.slice A xs.length cap) xs w h
  simp only [if_pos hn] at HS
  have HS:=xK HS
  have MK:=fun v w base (h:Rw.Own EPt w base v xs)=>gj v xs 1 w base h (by decide) (by omega)
  have hk0:(0:Int)≤1+3*xs.length:=by omega
  have hm0:(0:Int)≤1+3*(V.length:Int):=by omega
  have MV:=fun v w base (h:Rw.Own EPt w base v V)=>gh x1 x2 x3 x4 v V 1 w base h (by decide) (by omega)
  have HV:=fun v w base (h:Rw.Own EPt w base v (M.cS 1 V.length))=>gY x1 x2 x3 x4 v V.length 1 w base h (by decide) (by omega)
  have hn4:xs.length≤4000000:=by omega
  have MK:=xK MK
  have MV:=xK MV
  have HV:=xK HV
  have B:=(xN w.heap.size w).alloc (xO _) (.cells #[.int .i64 a,.int .i64 b] 23)
  have C:=aH.new w #[.int .i64 a,.int .i64 b] 23
  generalize hw3:w.alloc (.cells #[.int .i64 a,.int .i64 b] 23)=wc at *
  have k0:=C.box.c0
  have k1:=C.box.c1
  generalize hKe:(1:Int)+3*xs.length=K1 at *
  generalize hMe:(1:Int)+3*(V.length:Int)=M1 at *
  clear hKe hMe
  generalize xs.length=L at *
  generalize hM:(1048576:Int) - L=M0 at *
  go_enter Tryz.func5,Tryz.ntmps5
  go_wp2_with fail
  refine (HS.out _ (Hx.out.keep B)).mono ?_;rintro e w0 ⟨rfl,rfl⟩
  go_wp2_with fail
  refine (TCu.out _).mono ?_;rintro e w1 ⟨rfl,b1⟩
  replace B:=B.trans (b1.mono B.size)
  replace C:=C.keep b1
  clear k0 k1
  go_wp2_with fail
  refine (TC.out _ (Hx.out.keep B)).mono ?_;rintro e w2 ⟨v2,rfl,o2,b2⟩
  replace B:=B.trans (b2.mono B.size)
  replace C:=C.keep b2
  go_wp2_with fail
  refine (E1.out _ _ o2.seen.pts hn4).mono ?_;rintro e w3 ⟨u0,rfl,ho,b3⟩
  replace B:=B.trans (b3.mono B.size)
  replace C:=C.keep b3
  have s:=ho.seen
  obtain ⟨A0,c0,rfl⟩:=slV s.pts
  obtain ⟨wq,hwq,Q0,Bq⟩:=gF w3 #[.int .i64 x1,.int .i64 x2,.slice A0 V.length c0,.int .i64 x3,.int .i64 x4] 47
  have hle:=Bq.size
  replace B:=B.trans (Bq.mono B.size)
  replace C:=C.keep Bq
  replace s:=s.below Bq
  have h3:=B.size
  have G:=xN wq.heap.size wq
  clear ho o2
  go_wp2_with fail
  refine (TC.out _ (Hx.out.keep B)).mono ?_;rintro e w4 ⟨v4,rfl,o4,b4⟩
  replace B:=B.trans (b4.mono B.size)
  replace G:=G.trans (b4.mono G.size)
  have zG:=G.size
  have hlt4:∀ k,v4.ownBlock=some k→wq.heap.size≤k∧k<w4.heap.size:=fun k hk=>World.ownsRow.lt o4 k hk
  have k0:=(C.keep G).box.c0
  have k1:=(C.keep G).box.c1
  go_wp2_with fail
  refine (TCu.out _).mono ?_;rintro e w5 ⟨rfl,b5⟩
  replace B:=B.trans (b5.mono B.size)
  replace G:=G.trans (b5.mono G.size)
  have zG:=G.size
  replace o4:=o4.below b5
  have z5:=b5.size
  clear k0 k1
  go_wp2_with fail
  refine (E2.out _ _ o4.seen.pts hn4).mono ?_;rintro e w6 ⟨u1,rfl,p,b6⟩
  replace B:=B.trans (b6.mono B.size)
  replace G:=G.trans (b6.mono G.size)
  have zG:=G.size
  replace o4:=o4.below b6
  have z6:=b6.size
  have hb5:wq.heap.size≤w5.heap.size:=Nat.le_trans (Nat.le_trans b4.size b5.size) (xO _)
  obtain ⟨A1,c1,rfl⟩:=slV p.seen.pts
  obtain ⟨wr,hwr,Q1,Br⟩:=gF w6 #[.int .i64 x1,.int .i64 x2,.slice A1 V.length c1,.int .i64 x3,.int .i64 x4] 47
  replace B:=B.trans (Br.mono B.size)
  replace G:=G.trans (Br.mono G.size)
  have zG:=G.size
  replace o4:=o4.below Br
  replace p:=p.below Br
  have ⟨q0,q1,q2,q3,q4⟩:=(Q0.keep G).dC
  have ⟨r0,r1,r2,r3,r4⟩:=Q1.dC
  go_wp2_with fail
  refine (EV.out _ _ _ _ _ p.seen (s.below (G.mono hle)) (xO _) (Nat.le_trans hle zG)).mono ?_;rintro e w7 ⟨rfl,b7⟩
  replace B:=B.trans (b7.mono B.size)
  replace G:=G.trans (b7.mono G.size)
  have zG:=G.size
  replace o4:=o4.below b7
  replace p:=p.below b7
  replace Q1:=Q1.keep b7
  clear q0 q1 q2 q3 q4 r0 r1 r2 r3 r4
  go_wp2_with fail
  refine (TC.out _ (Hx.out.keep B)).mono ?_;rintro e w8 ⟨v8,rfl,o8,b8⟩
  replace B:=B.trans (b8.mono B.size)
  replace G:=G.trans (b8.mono G.size)
  have zG:=G.size
  replace o4:=o4.below b8
  replace p:=p.below b8
  replace Q1:=Q1.keep b8
  go_wp2_with fail
  refine (EQ.out _ _ _ _ _ o4.seen o8.seen (xO _) (xO _)).mono ?_;rintro e w9 ⟨rfl,b9⟩
  replace B:=B.trans (b9.mono B.size)
  replace G:=G.trans (b9.mono G.size)
  have zG:=G.size
  replace o4:=o4.below b9
  replace p:=p.below b9
  replace Q1:=Q1.keep b9
  clear o8
  go_wp2_with fail
  refine (MK.out _ _ _ o4).mono ?_;rintro e w10 ⟨rfl,-,hg⟩
  have b10:Below wq.heap.size w9 w10:=cN hg zG (fun k hk=>(hlt4 k hk).1)
  replace B:=B.trans (b10.mono h3)
  replace G:=G.trans b10
  replace zG:=G.size
  replace Q1:=Q1.jd o4 hg gG
  replace p:=p.wu hg (fun k hk=>Nat.lt_of_lt_of_le (hlt4 k hk).2 b5.size)
  clear o4 hg
  have ⟨q0,q1,q2,q3,q4⟩:=(Q0.keep G).dC
  have ⟨r0,r1,r2,r3,r4⟩:=Q1.dC
  go_wp2_with fail
  refine (EV.out _ _ _ _ _ p.seen (s.below (G.mono hle)) (xO _) (Nat.le_trans hle zG)).mono ?_;rintro e w11 ⟨rfl,b11⟩
  replace B:=B.trans (b11.mono B.size)
  replace G:=G.trans (b11.mono G.size)
  have zG:=G.size
  replace p:=p.below b11
  replace Q1:=Q1.keep b11
  clear q0 q1 q2 q3 q4
  clear r0 r1 r2 r3 r4
  have ⟨r0,r1,r2,r3,r4⟩:=Q1.dC
  have zq:w5.heap.size≤w11.heap.size:=by have:=b6.size;have:=Br.size;have:=b7.size;have:=b8.size;have:=b9.size;have:=b10.size;have:=b11.size;omega
  go_wp2_with fail
  refine (MV.out _ _ _ p).mono ?_;rintro e w12 ⟨rfl,q,hg⟩
  have b12:Below w5.heap.size w11 w12:=cN hg zq (fun k hk=>(p.lt k hk).1)
  replace Q1:=Q1.jd p hg gG
  clear hg
  replace B:=B.trans (b12.mono (Nat.le_trans h3 hb5))
  replace G:=G.trans (b12.mono hb5)
  replace zG:=G.size
  clear p r0 r1 r2 r3 r4
  have ⟨r0,r1,r2,r3,r4⟩:=Q1.dC
  go_wp2_with fail
  refine (HV.out _ _ _ q).mono ?_;rintro e w13 ⟨rfl,b13⟩
  replace B:=B.trans (b13.mono B.size)
  replace G:=G.trans (b13.mono G.size)
  have zG:=G.size
  replace q:=q.below b13
  replace Q1:=Q1.keep b13
  clear r0 r1 r2 r3 r4
  have k0:=(C.keep G).box.c0
  have k1:=(C.keep G).box.c1
  go_wp2_with fail
  refine (TCu.out _).mono ?_;rintro e w14 ⟨rfl,b14⟩
  replace B:=B.trans (b14.mono B.size)
  replace G:=G.trans (b14.mono G.size)
  have zG:=G.size
  replace q:=q.below b14
  replace Q1:=Q1.keep b14
  clear k0 k1
  go_wp2_with fail
  refine (TC.out _ (Hx.out.keep B)).mono ?_;rintro e w15 ⟨v15,rfl,o15,b15⟩
  replace B:=B.trans (b15.mono B.size)
  replace G:=G.trans (b15.mono G.size)
  have zG:=G.size
  replace q:=q.below b15
  replace Q1:=Q1.keep b15
  go_wp2_with fail
  refine (E2.out _ _ o15.seen.pts hn4).mono ?_;rintro e w16 ⟨u2,rfl,hw,b16⟩
  replace B:=B.trans (b16.mono B.size)
  replace G:=G.trans (b16.mono G.size)
  have zG:=G.size
  replace q:=q.below b16
  replace Q1:=Q1.keep b16
  obtain ⟨A2,c2,rfl⟩:=slV hw.seen.pts
  obtain ⟨wt,hwt,Q2,Bt⟩:=gF w16 #[.int .i64 x1,.int .i64 x2,.slice A2 V.length c2,.int .i64 x3,.int .i64 x4] 47
  replace B:=B.trans (Bt.mono B.size)
  replace G:=G.trans (Bt.mono G.size)
  have zG:=G.size
  replace q:=q.below Bt
  replace hw:=hw.below Bt
  replace Q1:=Q1.keep Bt
  have ⟨q0,q1,q2,q3,q4⟩:=(Q0.keep G).dC
  have ⟨t0,t1,t2,t3,t4⟩:=Q2.dC
  go_wp2_with fail
  refine (EV.out _ _ _ _ _ hw.seen (s.below (G.mono hle)) (xO _) (Nat.le_trans hle zG)).mono ?_;rintro e w17 ⟨rfl,b17⟩
  replace B:=B.trans (b17.mono B.size)
  replace G:=G.trans (b17.mono G.size)
  have zG:=G.size
  replace q:=q.below b17
  replace Q1:=Q1.keep b17
  clear q0 q1 q2 q3 q4 t0 t1 t2 t3 t4
  have ⟨r0,r1,r2,r3,r4⟩:=Q1.dC
  go_wp2_with fail
  refine (HV.out _ _ _ q).mono ?_;rintro e w18 ⟨rfl,b18⟩
  replace B:=B.trans (b18.mono B.size)
  go_wp2_with fail
  go_ret
  exact ⟨by simp,B⟩
 obtain ⟨A,cap,rfl,-,-⟩:=hx
 have HS:=fun w (h:dB w (.slice A xs.length cap) xs)=>j9 (.slice A xs.length cap) xs w h
 simp only [if_neg hn] at HS
 have HS:=xK HS
 have B:=(xN w.heap.size w).alloc (xO _) (.cells #[.int .i64 a,.int .i64 b] 23)
 replace Hx:=xK (Hx.out.keep B)
 generalize hw3:w.alloc (.cells #[.int .i64 a,.int .i64 b] 23)=wc at *
 generalize xs.length=L at *
 go_enter Tryz.func5,Tryz.ntmps5
 go_wp2_with fail
 refine (HS.out _ Hx.out).mono ?_;rintro e w0 ⟨rfl,rfl⟩
 go_wp2
 go_ret
 exact ⟨rfl,B⟩
end
end Go.Proofs.YtgfkcoablfjbcaaGreat
