/-
  Joined texts: contracts and plain lemmas.
-/
import Derived.Test.YthfjndmdalfloaaGreatV27
set_option linter.unusedSimpArgs false
set_option linter.unusedVariables false
set_option maxRecDepth 100000
set_option maxHeartbeats 8000000
namespace Go.Proofs.YthfjndmdalfloaaGreat
section
open Go.RowKit
structure bD (kb sb xb w5s:Nat) (f:Bool) (us q:Int × Int) (w5 W:World):Prop where
 K:aG W kb 72 #[.bool f]
 S:aG W sb 58 #[.int .i64 us.1,.int .i64 us.2]
 X:aG W xb 58 #[.int .i64 q.1,.int .i64 q.2]
 B:Below w5s w5 W
 d1:kb≠sb
 d2:kb≠xb
 d3:sb≠xb
 l1:w5s≤kb
 l2:w5s≤sb
theorem bD.drew {kb sb xb w5s:Nat} {f:Bool} {us q:Int × Int} {w5 W:World} (h:bD kb sb xb w5s f us q w5 W):bD kb sb xb w5s f us q w5 W.drew:=⟨h.K,h.S,h.X,h.B.drew,h.d1,h.d2,h.d3,h.l1,h.l2⟩
theorem bD.call {kb sb xb w5s:Nat} {f f2:Bool} {us q:Int × Int} {w5 W W':World} (h:bD kb sb xb w5s f us q w5 W) (hb:Below W.heap.size (W.setCell ⟨kb,0,none⟩ (.bool f2)) W') (hs:w5s≤W.heap.size):bD kb sb xb w5s f2 us q w5 W':=by
 have hb2:=aU hb
 exact ⟨(h.K.one _).keep hb2,(h.S.other (fun e=>h.d1 e.symm) _).keep hb2,(h.X.other (fun e=>h.d2 e.symm) _).keep hb2,(Below.setCell h.B (by exact h.l1) _).trans (hb.mono hs),h.d1,h.d2,h.d3,h.l1,h.l2⟩
theorem bD.put {kb sb xb w5s:Nat} {f:Bool} {us q:Int × Int} {w5 W:World} (h:bD kb sb xb w5s f us q w5 W) (u:Int × Int):bD kb sb xb w5s f u q w5 ((W.setCell ⟨sb,0,none⟩ (.int .i64 u.1)).setCell ⟨sb,1,none⟩ (.int .i64 u.2)):=
 ⟨(h.K.other h.d1 _).other h.d1 _,aG.set2 h.S _ _,(h.X.other (fun e=>h.d3 e.symm) _).other (fun e=>h.d3 e.symm) _,Below.setCell (Below.setCell h.B (by exact h.l2) _) (by exact h.l2) _,h.d1,h.d2,h.d3,h.l1,h.l2⟩
def fJ (n kb sb xb w5s:Nat) (f f2 f3:Bool) (us u2 u3 q:Int × Int) (w5:World) (x7 x8:Value) (W:World):Prop:=match n with
 | 0=>bD kb sb xb w5s f us q w5 W
 | 1=>bD kb sb xb w5s f2 us q w5 W∧x7=.agg #[.int .i64 u2.1,.int .i64 u2.2]
 | 2=>bD kb sb xb w5s f3 us q w5 W∧x8=.agg #[.int .i64 u3.1,.int .i64 u3.2]
 | _=>bD kb sb xb w5s f3 u3 q w5 W
theorem fJ.S {n kb sb xb w5s:Nat} {f f2 f3:Bool} {us u2 u3 q:Int × Int} {w5:World} {x7 x8:Value} {W:World} (h:fJ n kb sb xb w5s f f2 f3 us u2 u3 q w5 x7 x8 W) (hn:n≤2):aG W sb 58 #[.int .i64 us.1,.int .i64 us.2]:=by
 match n,hn,h with
 | 0,_,h=>exact bD.S h
 | 1,_,h=>exact h.1.S
 | 2,_,h=>exact h.1.S
theorem fJ.X {n kb sb xb w5s:Nat} {f f2 f3:Bool} {us u2 u3 q:Int × Int} {w5:World} {x7 x8:Value} {W:World} (h:fJ n kb sb xb w5s f f2 f3 us u2 u3 q w5 x7 x8 W):aG W xb 58 #[.int .i64 q.1,.int .i64 q.2]:=by
 match n,h with
 | 0,h=>exact bD.X h
 | 1,h=>exact h.1.X
 | 2,h=>exact h.1.X
 | n+3,h=>exact bD.X h
structure bj (kb sb rb w0s:Nat) (f:Bool) (us:Int × Int) (w W:World):Prop where
 K:aG W kb 72 #[.bool f]
 S:aG W sb 58 #[.int .i64 us.1,.int .i64 us.2]
 B:Below w0s w W
 d1:kb≠rb
 d2:sb≠rb
 l1:w0s≤rb
theorem bj.drew {kb sb rb w0s:Nat} {f:Bool} {us:Int × Int} {w W:World} (h:bj kb sb rb w0s f us w W):bj kb sb rb w0s f us w W.drew:=⟨h.K,h.S,h.B.drew,h.d1,h.d2,h.l1⟩
theorem bj.keep {kb sb rb w0s:Nat} {f:Bool} {us:Int × Int} {w W W':World} (h:bj kb sb rb w0s f us w W) (hb:Below W.heap.size W W') (hs:w0s≤W.heap.size):bj kb sb rb w0s f us w W':=⟨h.K.keep hb,h.S.keep hb,h.B.trans (hb.mono hs),h.d1,h.d2,h.l1⟩
theorem bj.put4 {kb sb rb w0s:Nat} {f:Bool} {us:Int × Int} {w W:World} {x1 x2 x3 x4:Int} (h:bj kb sb rb w0s f us w W) (hR:aG W rb 38 #[.int .i64 x1,.int .i64 x2,.int .i64 x3,.int .i64 x4]) (y1 y2 y3 y4:Int):(bj kb sb rb w0s f us w ((((W.setCell ⟨rb,0,none⟩ (.int .i64 y1)).setCell ⟨rb,1,none⟩ (.int .i64 y2)).setCell ⟨rb,2,none⟩ (.int .i64 y3)).setCell ⟨rb,3,none⟩ (.int .i64 y4)))∧aG ((((W.setCell ⟨rb,0,none⟩ (.int .i64 y1)).setCell ⟨rb,1,none⟩ (.int .i64 y2)).setCell ⟨rb,2,none⟩ (.int .i64 y3)).setCell ⟨rb,3,none⟩ (.int .i64 y4)) rb 38 #[.int .i64 y1,.int .i64 y2,.int .i64 y3,.int .i64 y4]:=
 ⟨⟨(((h.K.other h.d1 _).other h.d1 _).other h.d1 _).other h.d1 _,(((h.S.other h.d2 _).other h.d2 _).other h.d2 _).other h.d2 _,Below.setCell (Below.setCell (Below.setCell (Below.setCell h.B h.l1 _) h.l1 _) h.l1 _) h.l1 _,h.d1,h.d2,h.l1⟩,aG.set4 hR _ _ _ _⟩
def dj (n kb sb rb w0s:Nat) (f:Bool) (us:Int × Int) (i1 i2 i3 i4:Int) (w:World) (x5:Value) (W:World):Prop:=match n with
 | 0=>bj kb sb rb w0s f us w W∧aG W rb 38 #[.int .i64 0,.int .i64 0,.int .i64 0,.int .i64 0]
 | 1=>(bj kb sb rb w0s f us w W∧aG W rb 38 #[.int .i64 0,.int .i64 0,.int .i64 0,.int .i64 0])∧x5=.tuple #[.agg #[.int .i64 i1,.int .i64 i2,.int .i64 i3,.int .i64 i4],.bool f]
 | _=>(bj kb sb rb w0s f us w W∧aG W rb 38 #[.int .i64 i1,.int .i64 i2,.int .i64 i3,.int .i64 i4])∧x5=.tuple #[.agg #[.int .i64 i1,.int .i64 i2,.int .i64 i3,.int .i64 i4],.bool f]
theorem dj.st {n kb sb rb w0s:Nat} {f:Bool} {us:Int × Int} {i1 i2 i3 i4:Int} {w:World} {x5:Value} {W:World} (h:dj n kb sb rb w0s f us i1 i2 i3 i4 w x5 W):bj kb sb rb w0s f us w W:=by
 match n,h with
 | 0,h=>exact h.1
 | 1,h=>exact h.1.1
 | n+2,h=>exact h.1.1
theorem dj.val {n kb sb rb w0s:Nat} {f:Bool} {us:Int × Int} {i1 i2 i3 i4:Int} {w:World} {x5:Value} {W:World} (h:dj n kb sb rb w0s f us i1 i2 i3 i4 w x5 W) (hn:0<n):x5=.tuple #[.agg #[.int .i64 i1,.int .i64 i2,.int .i64 i3,.int .i64 i4],.bool f]:=by
 match n,hn,h with
 | 1,_,h=>exact h.2
 | n+2,_,h=>exact h.2
theorem bC.at {w:World} {hi m c k:Nat} {a:Option Addr} {n:List Int} {x:Int} (h:bC w hi (.slice a m c) n) (hk:n[k]?=some x):∃ g,a=some ⟨g,0,none⟩∧w.cell? ⟨g,k,none⟩=some (.int .i64 x):=by
 obtain ⟨a2,c2,e,-,h3⟩:=h
 injection e with e1 _ _
 subst e1
 obtain ⟨g,y,e,-,hy,hc⟩:=h3 k (List.getElem?_eq_some_iff.1 hk).1
 rw [hk] at hy
 obtain rfl:=Option.some.inj hy.out
 exact ⟨g,e,hc⟩
theorem dH (a b:Int) (v nv:Value) (l:List Pt) (n:List Int) (w:World) (hx:dk w v l) (hnx:bC w w.heap.size nv n) (hn:l.length≤4000000) :
  Calls Tryz.prog 15 #[.agg #[.int .i64 a,.int .i64 b],v,nv] w fun e w'=>e=.returned (.tuple #[.agg #[.int .i64 (M.in1 (M.comV a b l n)),.int .i64 (M.in2 (M.comV a b l n)),.int .i64 (M.in3 (M.comV a b l n)),.int .i64 (M.in4 (M.comV a b l n))],.bool (M.comV a b l n).isSome])∧Below w.heap.size w w':=by
 have PL:=fun W h=>gq a b v l W h hn
 have PM:=fun (hp:M.plist a b l=true) W h=>eK a b v l W h (M.plist_is hp).1 (M.plist_is hp).2.2.1 (M.plist_is hp).2.2.2
 have hpl:=fun h=>M.plist_is (a:=a) (b:=b) (l:=l) h
 have eno:=fun h=>M.comV_no (a:=a) (b:=b) (l:=l) (n:=n) h
 have eyes:=fun h=>M.comV_yes (a:=a) (b:=b) (l:=l) (n:=n) h
 have hcok:M.comOk a b l n=(M.plist a b l && M.fits n l.length):=rfl
 rw [hcok] at eno eyes
 clear hcok
 have hsq:=fun h=>M.pRows_sq (a:=a) (b:=b) (l:=l) h
 have hok:=fun h=>M.pRows_ok (a:=a) (b:=b) (l:=l) h
 have hpn:=fun h=>M.pRows_no (a:=a) (b:=b) (l:=l) h
 obtain ⟨pa,pcap,hpv,-⟩:=id hx
 have PF:=fun W (h:bC W W.heap.size nv n)=>gD pa l.length pcap nv n W h
 rw [←hpv] at PF
 clear hpv
 obtain ⟨na,ncap,hnv,hnl,hnc⟩:=hnx
 have hnx:=Lib.hid (show bC w w.heap.size nv n from ⟨na,ncap,hnv,hnl,hnc⟩)
 subst hnv
 clear hnc
 replace hx:=Lib.hid hx
 obtain ⟨wc,hw3,C,R,B⟩:=i9 w #[.int .i64 a,.int .i64 b] 28 #[.int .i64 0,.int .i64 0,.int .i64 0,.int .i64 0] 38
 have C_c0:=C.box.c0
 have C_c1:=C.box.c1
 cases hp:M.plist a b l with
 | false=>
  rw [hp] at PL eno
  have hfin:=Lib.hid (eno rfl)
  replace PL:=Lib.hid PL
  clear PM PF eno eyes hp hsq hok hpl hpn
  go_enter Tryz.func15,Tryz.ntmps15
  go_wp2_with (go_at_call 29;(with_reducible refine (PL.out _ (hx.out.below B)).mono ?_);rintro e w4 ⟨rfl,hb4⟩;(replace B:=B.trans (hb4.mono B.size));(replace C:=C.keep hb4);(replace R:=R.keep hb4);(have C_c0:=C.box.c0);(have C_c1:=C.box.c1);(have ⟨r0,r1,r2,r3,z0,z1,z2,z3,rl⟩:=R.boxQ))
  exact bodyPost_ret (v:=.tuple #[.agg #[.int .i64 0,.int .i64 0,.int .i64 0,.int .i64 0],.bool false]) (by simp [results,Tryz.results15,go_sem, *]) rfl (⟨by rw [hfin.out];rfl,Below.setCell (Below.setCell (Below.setCell (Below.setCell B (by simp) _) (by simp) _) (by simp) _) (by simp) _⟩)
 | true=>
  rw [hp] at PL eno eyes
  replace PL:=Lib.hid PL
  cases hft:M.fits n l.length with
  | false=>
   rw [hft] at PF eno
   have hfin:=Lib.hid (eno rfl)
   replace PF:=Lib.hid PF
   clear PM eno eyes hp hsq hok hpl hpn hft
   go_enter Tryz.func15,Tryz.ntmps15
   go_wp2_with first | (go_at_call 29;(with_reducible refine (PL.out _ (hx.out.below B)).mono ?_);rintro e w4 ⟨rfl,hb4⟩;(replace B:=B.trans (hb4.mono B.size));(replace C:=C.keep hb4);(replace R:=R.keep hb4);(have C_c0:=C.box.c0);(have C_c1:=C.box.c1);(have ⟨r0,r1,r2,r3,z0,z1,z2,z3,rl⟩:=R.boxQ)) | (go_at_call 38;(with_reducible refine (PF.out _ ((hnx.out.below B).mono B.size)).mono ?_);rintro e w5 ⟨rfl,hb5⟩;(replace B:=B.trans (hb5.mono B.size));(replace C:=C.keep hb5);(replace R:=R.keep hb5);(have C_c0:=C.box.c0);(have C_c1:=C.box.c1);(have ⟨r0,r1,r2,r3,z0,z1,z2,z3,rl⟩:=R.boxQ))
   exact bodyPost_ret (v:=.tuple #[.agg #[.int .i64 0,.int .i64 0,.int .i64 0,.int .i64 0],.bool false]) (by simp [results,Tryz.results15,go_sem, *]) rfl (⟨by rw [hfin.out];rfl,Below.setCell (Below.setCell (Below.setCell (Below.setCell B (by simp) _) (by simp) _) (by simp) _) (by simp) _⟩)
  | true=>
   rw [hft] at PF eno eyes
   replace PF:=Lib.hid PF
   obtain ⟨-,hl1,hl4,-⟩:=hpl hp
   replace PM:=PM hp
   have hV:M.comV a b l n=if M.mOk a b l=true then M.comS n (M.pRows a b l) else none:=by
    cases h:M.mOk a b l with
    | true=>rw [if_pos rfl];exact eyes (by rw [h];rfl)
    | false=>rw [if_neg (by decide)];exact eno (by rw [h];rfl)
   clear eno eyes hp hpl
   obtain ⟨N,hN⟩:∃ N,N=l.length:=⟨_,rfl⟩
   rw [←hN] at hl1 hl4 hsq hft
   obtain ⟨okb,hokb⟩:∃ x,x=M.mOk a b l:=⟨_,rfl⟩
   rw [←hokb] at hsq hok hpn PM hV
   obtain ⟨rows,hrows⟩:∃ x,x=M.pRows a b l:=⟨_,rfl⟩
   rw [←hrows] at hsq hok hpn PM hV
   obtain ⟨V,hVd⟩:∃ x,x=M.comV a b l n:=⟨_,rfl⟩
   rw [←hVd] at hV
   have hVd:=Lib.hid hVd
   clear hrows hokb
   have hfl:=(M.fits_is hft).1
   rw [hfl] at hnl
   obtain ⟨NR,hNR⟩:∃ x,x=rows.length:=⟨_,rfl⟩
   have hyes:0<NR→okb=true∧NR=N:=fun h=>by
    cases hb:okb with
    | true=>exact ⟨rfl,by rw [hNR];exact (hsq hb).1⟩
    | false=>have:=hpn hb;rw [this] at hNR;rw [hNR] at h;exact absurd h (by decide)
   have hNR4:(NR:Int)≤4:=by
    rcases Nat.eq_zero_or_pos NR with h | h
    ·omega
    ·have:=(hyes h).2;omega
   have hfin:M.gd (okb && (M.comTo n rows NR).isSome) (M.mulS (some (2048,2048)) (M.comTo n rows NR))=V:=by
    rw [hV,hNR]
    cases okb with
    | true=>rw [if_pos rfl,Bool.true_and];exact M.com_last _ _
    | false=>rfl
   have hVo:M.okS V:=by rw [←hfin];exact M.okS_gd M.okS_mul
   have hfz:(okb && (M.comTo n rows NR).isSome)=true→(M.comTo n rows NR).isSome=true:=fun h=>by rw [Bool.and_eq_true] at h;exact h.2
   have PT:=fun kb W K=>gv kb (okb && (M.comTo n rows NR).isSome) (some (2048,2048)) (M.comTo n rows NR) W K (fun p hp=>by obtain rfl:=Option.some.inj hp;decide) (M.okS_comTo _) (fun _=>rfl) hfz
   rw [hfin] at PT
   have e1:M.slo (some (2048,2048))=2048∧M.shi (some (2048,2048))=2048:=⟨rfl,rfl⟩
   rw [e1.1,e1.2] at PT
   have PI:=fun W=>ij (M.slo V) (M.shi V) V.isSome W
   obtain ⟨q1,q2,q3,q4,q5⟩:=M.pick_in hVo
   rw [q1,q2,q3,q4,q5] at PI
   clear q1 q2 q3 q4 q5 e1 hfin hVo hfz hV
   rw [hVd.out.symm]
   obtain ⟨i1,hi1⟩:∃ x,x=M.in1 V:=⟨_,rfl⟩
   obtain ⟨i2,hi2⟩:∃ x,x=M.in2 V:=⟨_,rfl⟩
   obtain ⟨i3,hi3⟩:∃ x,x=M.in3 V:=⟨_,rfl⟩
   obtain ⟨i4,hi4⟩:∃ x,x=M.in4 V:=⟨_,rfl⟩
   rw [←hi1,←hi2,←hi3,←hi4] at PI ⊢
   clear hi1 hi2 hi3 hi4 hVd
   generalize V.isSome=fV at *
   generalize M.slo V=lV at *
   generalize M.shi V=hV at *
   have hft:=Lib.hid hft
   have hsq:=Lib.hid hsq
   have hok:=Lib.hid hok
   have hyes:=Lib.hid hyes
   have hNR':=Lib.hid hNR
   clear hpn hNR
   replace PM:=Lib.hid PM
   replace PT:=Lib.hid PT
   replace PI:=Lib.hid PI
   rw [hfl] at PF hnx ⊢
   replace hN:=Lib.hid hN
   replace hfl:=Lib.hid hfl
   go_enter Tryz.func15,Tryz.ntmps15
   go_wp2_with first | (go_at_call 29;(with_reducible refine (PL.out _ (hx.out.below B)).mono ?_);rintro e w4 ⟨rfl,hb4⟩;(replace B:=B.trans (hb4.mono B.size));(replace C:=C.keep hb4);(replace R:=R.keep hb4);(have C_c0:=C.box.c0);(have C_c1:=C.box.c1);(have ⟨r0,r1,r2,r3,z0,z1,z2,z3,rl⟩:=R.boxQ)) | (go_at_call 38;(with_reducible refine (PF.out _ ((hnx.out.below B).mono B.size)).mono ?_);rintro e w5 ⟨rfl,hb5⟩;(replace B:=B.trans (hb5.mono B.size));(replace C:=C.keep hb5);(replace R:=R.keep hb5);(have C_c0:=C.box.c0);(have C_c1:=C.box.c1);(have ⟨r0,r1,r2,r3,z0,z1,z2,z3,rl⟩:=R.boxQ)) | (go_at_call 39;(with_reducible refine (PM.out _ (hx.out.below B)).mono ?_);rintro e w6 ⟨mv,rfl,⟨vs,hM⟩,hb6⟩;(have hs6:=Nat.le_trans B.size hb6.size);(replace B:=B.trans (hb6.mono B.size));(replace R:=R.keep hb6);(clear C C_c0 C_c1);obtain ⟨ma,mcap,rfl,-,-⟩:=hM.view;(replace hM:=Lib.hid hM))
   rw [←hNR'.out] at hM
   have K:=(aG.new w6 #[.bool okb] 72).alloc (.cells #[.int .i64 0,.int .i64 0] 58)
   have S:=aG.new (w6.alloc (.cells #[.bool okb] 72)) #[.int .i64 0,.int .i64 0] 58
   rw [World.size_alloc] at S
   have Bw:=(bA w6 (.cells #[.bool okb] 72)).alloc (by rw [World.size_alloc];omega) (.cells #[.int .i64 0,.int .i64 0] 58)
   have hS9:=S.lt
   generalize hwd:(w6.alloc (.cells #[.bool okb] 72)).alloc (.cells #[.int .i64 0,.int .i64 0] 58)=wd at *
   rw [←hNR'.out]
   go_loopw [40] (fun vi wq=>∃ i:Nat,i≤NR∧vi=.int .i64 (i:Int)∧aG wq w6.heap.size 72 #[.bool (okb && (M.comTo n rows i).isSome)]∧aG wq (w6.heap.size+1) 58 #[.int .i64 (M.slo (M.comTo n rows i)),.int .i64 (M.shi (M.comTo n rows i))]∧w6.heap.size+1<wq.heap.size∧Below w6.heap.size w6 wq) (fun vi _=>NR - (intOf vi).toNat)
   case atStart=>exact ⟨0,Nat.zero_le _,rfl,by
    have e:(okb && (M.comTo n rows 0).isSome)=okb:=by cases okb <;> rfl
    rw [e];exact K,S,hS9,Bw⟩
   case round=>
    clear K S Bw hS9 hwd
    obtain ⟨i,hi,rfl,K,S,hz,Bw⟩:=hrel
    by_cases hlt:i<NR
    ·obtain ⟨hob,hNN⟩:=hyes.out (by omega)
     subst hob
     obtain rfl:NR=N:=hNN
     obtain ⟨hml,hmr⟩:=hsq.out rfl
     have hokm:=hok.out rfl
     obtain ⟨r,hr⟩:∃ r,rows[i]?=some r:=⟨_,List.getElem?_eq_getElem (by have:=hNR'.out;omega)⟩
     have hrl:r.length=NR:=hmr r (List.mem_of_getElem? hr)
     have hmi:=Lib.hid (hM.out.below Bw)
     obtain ⟨gi,capi,hvi,hci,hgi⟩:=hmi.out.rowIs hr (fun h=>by rw [h] at hrl;simp only [List.length_nil] at hrl;omega)
     obtain ⟨gm,hgm⟩:∃ gm,ma=some ⟨gm,0,none⟩:=by
      obtain ⟨g_,c_,e_,-⟩:=hM.out.form (fun h=>by have:=hNR'.out;rw [h] at this;simp only [List.length_nil] at this;omega)
      injection e_ with e_ _ _
      exact ⟨g_,e_⟩
     subst hgm
     have kri:=hmi.out.rowCell hvi
     rw [hrl] at kri
     have hro:=Lib.hid (hokm r (List.mem_of_getElem? hr))
     have hnxt:=M.comTo_next (n:=n) hr
     rw [hrl] at hnxt
     have hnxt:=Lib.hid hnxt
     have hs0:=M.okS_comTo (n:=n) (m:=rows) i
     obtain ⟨ni,na1,na2⟩:=M.fits_at hft.out hlt
     have ni:=Lib.hid ni
     have hvi:=Lib.hid hvi
     have hr:=Lib.hid hr
     have hrl:=Lib.hid hrl
     rw [Bool.true_and] at K
     obtain ⟨s0,hs0d⟩:∃ s,s=M.comTo n rows i:=⟨_,rfl⟩
     rw [←hs0d] at K S hnxt hs0
     have hs0:=Lib.hid hs0
     clear hs0d hml hmr hokm hmi hci hgi
     generalize hwo:wr=wo at *
     clear hwo
     go_wp2
     go_loopw [47] (fun vj wq=>∃ j:Nat,j≤NR∧vj=.int .i64 (j:Int)∧aG wq w6.heap.size 72 #[.bool (M.comRow n i r s0 j).isSome]∧aG wq (w6.heap.size+1) 58 #[.int .i64 (M.slo (M.comRow n i r s0 j)),.int .i64 (M.shi (M.comRow n i r s0 j))]∧w6.heap.size+1<wq.heap.size∧Below w6.heap.size w6 wq) (fun vj _=>NR - (intOf vj).toNat)
     case atStart=>exact ⟨0,Nat.zero_le _,rfl,K,S,hz,Bw⟩
     case round=>
      clear K S Bw hz kri
      obtain ⟨j,hj,rfl,K,S,hz,Bw⟩:=hrel
      by_cases hlt2:j<NR
      ·obtain ⟨q,hq⟩:∃ q,r[j]?=some q:=⟨_,List.getElem?_eq_getElem (by have:=hrl.out;omega)⟩
       obtain ⟨d0,d1⟩:=((hM.out.below Bw).rowFrom hvi.out hr.out).at2 hq
       have hqs:=hro.out q (List.mem_of_getElem? hq)
       have hqo:M.okS (some q):=fun p hp=>by obtain rfl:=Option.some.inj hp;exact hqs
       obtain ⟨nj,nb1,nb2⟩:=M.fits_at hft.out hlt2
       have hxo:=M.okS_comX hft.out hlt hlt2
       have hnj:=M.comRow_next n i r s0 j
       rw [hq] at hnj
       have huo:=M.okS_comRow (n:=n) (i:=i) (r:=r) hs0.out j
       obtain ⟨us,hus⟩:∃ s,s=M.comRow n i r s0 j:=⟨_,rfl⟩
       rw [←hus] at K S hnj huo
       have hcs:=M.com_step us (some (M.comX n i j)) (some q)
       rw [←hnj] at hcs
       obtain ⟨u2,hu2⟩:∃ s,s=M.gd us.isSome (M.mulS (some (M.comX n i j)) (some q)):=⟨_,rfl⟩
       have PT2:=fun W K=>gv w6.heap.size us.isSome (some (M.comX n i j)) (some q) W K hxo hqo (fun _=>rfl) (fun _=>rfl)
       have hu2f:u2.isSome=true→us.isSome=true:=fun h=>by rw [hu2] at h;exact (M.gd_isSome h).1
       have PP2:=fun W K=>i8 w6.heap.size u2.isSome us u2 W K huo (by rw [hu2];exact M.okS_gd M.okS_mul) hu2f (fun h=>h)
       rw [←hu2] at PT2 hcs
       rw [hcs] at PP2
       have ex:M.slo (some (M.comX n i j))=n.getD i 0*n.getD j 0*4096∧M.shi (some (M.comX n i j))=n.getD i 0*n.getD j 0*4096:=⟨rfl,rfl⟩
       rw [ex.1,ex.2] at PT2
       obtain ⟨q1,q2⟩:=q
       have ey:M.slo (some (q1,q2))=q1∧M.shi (some (q1,q2))=q2:=⟨rfl,rfl⟩
       rw [ey.1,ey.2] at PT2
       simp only [] at d0 d1
       obtain ⟨u3,hu3⟩:∃ s,s=M.comRow n i r s0 (j+1):=⟨_,rfl⟩
       rw [←hu3] at PP2
       replace hu3:=Lib.hid hu3
       clear ex ey hcs hu2 hu2f hnj huo hus hxo hqo hqs hq
       have SN:=(hnx.out.below B).below (Bw.mono hs6)
       obtain ⟨gn,hgn,ci⟩:=SN.at ni.out
       obtain ⟨gn2,hgn2,cj⟩:=SN.at nj
       rw [hgn] at hgn2
       obtain rfl:gn=gn2:=by injection hgn2 with h;injection h
       clear hgn2 SN nj
       subst hgn
       obtain ⟨x1,hx1⟩:∃ x,x=n.getD i 0:=⟨_,rfl⟩
       obtain ⟨x2,hx2⟩:∃ x,x=n.getD j 0:=⟨_,rfl⟩
       rw [←hx1] at ci na1 na2
       rw [←hx2] at cj nb1 nb2
       rw [←hx1,←hx2] at PT2
       clear hx1 hx2
       obtain ⟨hxx1,hxx2⟩:=M.prod12 na1 na2 nb1 nb2
       have hii:((i:Nat):Int)<(NR:Int):=by omega
       have hjj:((j:Nat):Int)<(NR:Int):=by omega
       have Bv:=bA wr (.cells #[.int .i64 q1,.int .i64 q2] 58)
       have X:=aG.new wr #[.int .i64 q1,.int .i64 q2] 58
       replace K:=K.keep Bv
       replace S:=S.keep Bv
       replace Bw:=Bw.trans (Bv.mono Bw.size)
       replace ci:=aE Bv ci
       replace cj:=aE Bv cj
       have hX:=X.lt
       generalize hw2:wr.alloc (.cells #[.int .i64 q1,.int .i64 q2] 58)=wb at *
       clear Bv
       obtain ⟨f1,hf1⟩:∃ x,x=us.isSome:=⟨_,rfl⟩
       obtain ⟨l1,hl1⟩:∃ x,x=M.slo us:=⟨_,rfl⟩
       obtain ⟨h1,hh1⟩:∃ x,x=M.shi us:=⟨_,rfl⟩
       rw [←hf1] at K PT2
       rw [←hl1,←hh1] at S PP2
       clear hf1 hl1 hh1
       generalize u2.isSome=f2 at *
       generalize M.slo u2=l2 at *
       generalize M.shi u2=h2 at *
       obtain ⟨f3,hf3⟩:∃ x,x=u3.isSome:=⟨_,rfl⟩
       obtain ⟨l3,hl3⟩:∃ x,x=M.slo u3:=⟨_,rfl⟩
       obtain ⟨h3,hh3⟩:∃ x,x=M.shi u3:=⟨_,rfl⟩
       rw [←hf3,←hl3,←hh3] at PP2
       rw [hu3.out] at hf3 hl3 hh3
       replace hf3:=Lib.hid hf3
       replace hl3:=Lib.hid hl3
       replace hh3:=Lib.hid hh3
       clear hu3 u3 us u2
       replace PT2:=Lib.hid PT2
       replace PP2:=Lib.hid PP2
       go_upto_region 12 with fail
       refine Rg.walkT 11 [.is (.slice (some ⟨gn,0,none⟩) NR ncap),.is (.int .i64 ((i:Nat):Int)),.is (.pointer (some ⟨gn,i,none⟩)),.is (.int .i64 x1),.is (.slice (some ⟨gn,0,none⟩) NR ncap),.is (.int .i64 ((j:Nat):Int)),.is (.pointer (some ⟨gn,j,none⟩)),.is (.int .i64 x2),.is (.int .i64 (x1*x2)),.is (.int .i64 ((x1*x2)*4096)),.is (.int .i64 ((x1*x2)*4096))] (by kernel_rfl) (by kernel_rfl) (by kernel_rfl) ⟨?_,?_,?_,?_,?_,?_,?_,?_,?_,?_,?_,trivial⟩ ?_
       ·intro _ ac_ w_ hB hr
        have e2:ac_.tmps[2]?=some (.slice (some ⟨gn,0,none⟩) NR ncap):=hr 2 (by decide)
        exact Rg.pure1 rfl (by go_simp)
       ·intro _ ac_ w_ hB hr
        have e12:ac_.tmps[12]?=some (.int .i64 ((i:Nat):Int)):=hr 12 (by decide)
        exact Rg.pure1 rfl (by go_simp)
       ·intro _ ac_ w_ hB hr
        have e52:=Rg.ev1 (hr 52 (by decide))
        have e53:=Rg.ev1 (hr 53 (by decide))
        exact Rg.pure1 rfl (by (first | (go_simp;done) | (go_simp;omega)))
       ·intro _ ac_ w_ hB hr
        have e54:=Rg.ev1 (hr 54 (by decide))
        have k0:=aE hB ci
        exact Rg.pure1 rfl (by (first | (go_simp;done) | (go_simp;omega)))
       ·intro _ ac_ w_ hB hr
        have e2:ac_.tmps[2]?=some (.slice (some ⟨gn,0,none⟩) NR ncap):=hr 2 (by decide)
        exact Rg.pure1 rfl (by go_simp)
       ·intro _ ac_ w_ hB hr
        have e14:ac_.tmps[14]?=some (.int .i64 ((j:Nat):Int)):=hr 14 (by decide)
        exact Rg.pure1 rfl (by go_simp)
       ·intro _ ac_ w_ hB hr
        have e56:=Rg.ev1 (hr 56 (by decide))
        have e57:=Rg.ev1 (hr 57 (by decide))
        exact Rg.pure1 rfl (by (first | (go_simp;done) | (go_simp;omega)))
       ·intro _ ac_ w_ hB hr
        have e58:=Rg.ev1 (hr 58 (by decide))
        have k0:=aE hB cj
        exact Rg.pure1 rfl (by (first | (go_simp;done) | (go_simp;omega)))
       ·intro _ ac_ w_ hB hr
        have e55:=Rg.ev1 (hr 55 (by decide))
        have e59:=Rg.ev1 (hr 59 (by decide))
        exact Rg.pure1 rfl (by go_simp <;> exact Rg.wo (by omega))
       ·intro _ ac_ w_ hB hr
        have e60:=Rg.ev1 (hr 60 (by decide))
        have ec:=Rg.ec ac_
        exact Rg.pure1 rfl (by go_simp <;> exact Rg.wo (by omega))
       ·intro _ ac_ w_ hB hr
        have e61:=Rg.ev1 (hr 61 (by decide))
        exact Rg.pure1 rfl (by go_simp)
       ·intro vals wz hB hv hne
        have v_10:vals 10=.int .i64 ((x1*x2)*4096):=hv 10 (by decide)
        simp only [List.take_succ_cons,List.take_zero,List.drop_succ_cons,List.drop_zero,Rg.fill,if_true,Act.put,List.setIfInBounds_toArray,List.set_cons_zero,List.set_cons_succ,Nat.zero_add,Nat.reduceAdd]
        clear hv
        simp only [v_10]
        clear v_10
        unfold Rg.tailWp
        have hXg:wr.heap.size<wb.heap.size:=hX
        have hJ0:=Lib.hid (show bD w6.heap.size (w6.heap.size+1) wr.heap.size w6.heap.size f1 (l1,h1) (q1,q2) w6 wz from ⟨K.keep hB,S.keep hB,X.keep hB,Bw.trans (hB.mono Bw.size),by omega,by omega,by omega,Nat.le_refl _,by omega⟩)
        clear K S X Bw hB ci cj
        go_upto_region 13 with fail
        refine Rg.walkC (fun k v W=>fJ k w6.heap.size (w6.heap.size+1) wr.heap.size w6.heap.size f1 f2 f3 (l1,h1) (l2,h2) (l3,h3) (q1,q2) w6 (v 7) (v 8) W) [7,8,9] [.pointer (some ⟨w6.heap.size,0,none⟩),.agg #[.int .i64 l1,.int .i64 h1],.pointer (some ⟨w6.heap.size,0,none⟩),.int .i64 (x1*x2*4096),.int .i64 (x1*x2*4096),.agg #[.int .i64 (x1*x2*4096),.int .i64 (x1*x2*4096)],.agg #[.int .i64 q1,.int .i64 q2],undef,undef,undef] (by kernel_rfl) (by kernel_rfl) (by kernel_rfl) (by decide) (fun k v v2 W h hj=>by rw [←h 7 (by decide),←h 8 (by decide)];exact hj) (fun _=>hJ0.out.drew) ⟨?_,?_,?_,?_,?_,?_,?_,?_,?_,?_,trivial⟩ ?_
        ·unfold Rg.OwedC1
         rw [if_neg (by decide)]
         intro ac_ w_ n_ vals_ hn_ hJ hr
         refine ⟨rfl,?_⟩
         have e10:ac_.tmps[10]?=some (.pointer (some ⟨w6.heap.size,0,none⟩)):=hr 10 (by decide)
         go_simp
        ·unfold Rg.OwedC1
         rw [if_neg (by decide)]
         intro ac_ w_ n_ vals_ hn_ hJ hr
         refine ⟨rfl,?_⟩
         have e11:ac_.tmps[11]?=some (.pointer (some ⟨w6.heap.size+1,0,none⟩)):=hr 11 (by decide)
         have hn2_:=hn_.2.1 9 (by decide) (by kernel_rfl)
         have hS_:aG w_ (w6.heap.size+1) 58 #[.int .i64 l1,.int .i64 h1]:=fJ.S hJ hn2_
         have ⟨k0,k1,_,_,_⟩:=hS_.box
         (first | (go_simp;done) | (go_simp;omega))
        ·unfold Rg.OwedC1
         rw [if_neg (by decide)]
         intro ac_ w_ n_ vals_ hn_ hJ hr
         refine ⟨rfl,?_⟩
         have e10:ac_.tmps[10]?=some (.pointer (some ⟨w6.heap.size,0,none⟩)):=hr 10 (by decide)
         go_simp
        ·unfold Rg.OwedC1
         rw [if_neg (by decide)]
         intro ac_ w_ n_ vals_ hn_ hJ hr
         refine ⟨rfl,?_⟩
         have e16:ac_.tmps[16]?=some (.int .i64 (x1*x2*4096)):=hr 16 (by decide)
         go_simp
        ·unfold Rg.OwedC1
         rw [if_neg (by decide)]
         intro ac_ w_ n_ vals_ hn_ hJ hr
         refine ⟨rfl,?_⟩
         have e16:ac_.tmps[16]?=some (.int .i64 (x1*x2*4096)):=hr 16 (by decide)
         go_simp
        ·unfold Rg.OwedC1
         rw [if_neg (by decide)]
         intro ac_ w_ n_ vals_ hn_ hJ hr
         refine ⟨rfl,?_⟩
         have e65:ac_.tmps[65]?=some (.int .i64 (x1*x2*4096)):=hr 65 (by decide)
         have e66:ac_.tmps[66]?=some (.int .i64 (x1*x2*4096)):=hr 66 (by decide)
         go_simp
        ·unfold Rg.OwedC1
         rw [if_neg (by decide)]
         intro ac_ w_ n_ vals_ hn_ hJ hr
         refine ⟨rfl,?_⟩
         have e15:ac_.tmps[15]?=some (.pointer (some ⟨wr.heap.size,0,none⟩)):=hr 15 (by decide)
         have hX_:aG w_ wr.heap.size 58 #[.int .i64 q1,.int .i64 q2]:=fJ.X hJ
         have ⟨k0,k1,_,_,_⟩:=hX_.box
         (first | (go_simp;done) | (go_simp;omega))
        ·unfold Rg.OwedC1
         rw [if_pos (by decide)]
         intro ac_ w_ vals_ hJ hr
         have e64:ac_.tmps[64]?=some (.pointer (some ⟨w6.heap.size,0,none⟩)):=hr 64 (by decide)
         have e67:ac_.tmps[67]?=some (.agg #[.int .i64 (x1*x2*4096),.int .i64 (x1*x2*4096)]):=hr 67 (by decide)
         have e68:ac_.tmps[68]?=some (.agg #[.int .i64 q1,.int .i64 q2]):=hr 68 (by decide)
         have ef:∀ f,ac_.eval (.func f)=.func (.func f) #[] #[]:=fun _=>rfl
         refine ⟨rfl,?_⟩
         have h0_:bD w6.heap.size (w6.heap.size+1) wr.heap.size w6.heap.size f1 (l1,h1) (q1,q2) w6 w_:=hJ
         refine Rg.callC (by go_simp;exact ⟨rfl,rfl⟩) ?_
         refine (PT2.out _ h0_.K).mono ?_
         rintro e w5_ ⟨rfl,hb_⟩
         exact ⟨_,rfl,(h0_.call hb_ h0_.B.size:bD w6.heap.size (w6.heap.size+1) wr.heap.size w6.heap.size f2 (l1,h1) (q1,q2) w6 w5_),rfl⟩
        ·unfold Rg.OwedC1
         rw [if_pos (by decide)]
         intro ac_ w_ vals_ hJ hr
         have e62:ac_.tmps[62]?=some (.pointer (some ⟨w6.heap.size,0,none⟩)):=hr 62 (by decide)
         have e63:ac_.tmps[63]?=some (.agg #[.int .i64 l1,.int .i64 h1]):=hr 63 (by decide)
         have e69:ac_.tmps[69]?=some (vals_ 7):=hr 69 (by decide)
         have ef:∀ f,ac_.eval (.func f)=.func (.func f) #[] #[]:=fun _=>rfl
         refine ⟨rfl,?_⟩
         obtain ⟨h0_,e7_⟩:=hJ
         have h0_:bD w6.heap.size (w6.heap.size+1) wr.heap.size w6.heap.size f2 (l1,h1) (q1,q2) w6 w_:=h0_
         have e7_:vals_ 7=.agg #[.int .i64 l2,.int .i64 h2]:=e7_
         rw [e7_] at e69
         refine Rg.callC (by go_simp;exact ⟨rfl,rfl⟩) ?_
         refine (PP2.out _ h0_.K).mono ?_
         rintro e w5_ ⟨rfl,hb_⟩
         exact ⟨_,rfl,(h0_.call hb_ h0_.B.size:bD w6.heap.size (w6.heap.size+1) wr.heap.size w6.heap.size f3 (l1,h1) (q1,q2) w6 w5_),rfl⟩
        ·unfold Rg.OwedC1
         rw [if_pos (by decide)]
         intro ac_ w_ vals_ hJ hr
         have e11:ac_.tmps[11]?=some (.pointer (some ⟨w6.heap.size+1,0,none⟩)):=hr 11 (by decide)
         have e70:ac_.tmps[70]?=some (vals_ 8):=hr 70 (by decide)
         refine ⟨rfl,?_⟩
         obtain ⟨h0_,e8_⟩:=hJ
         have h0_:bD w6.heap.size (w6.heap.size+1) wr.heap.size w6.heap.size f3 (l1,h1) (q1,q2) w6 w_:=h0_
         have e8_:vals_ 8=.agg #[.int .i64 l3,.int .i64 h3]:=e8_
         rw [e8_] at e70
         have h9_:bD w6.heap.size (w6.heap.size+1) wr.heap.size w6.heap.size f3 (l3,h3) (q1,q2) w6 _:=h0_.put (l3,h3)
         have ⟨y0,y1,y2,y3,y4⟩:=h0_.S.box
         clear h0_
         unfold Oper.wp
         go_simp
         all_goals first | exact h9_ | exact ⟨_,rfl,h9_⟩ | exact ⟨undef,h9_⟩
        ·intro vals2 wy hJ hv
         simp only [Rg.fill,if_true,Act.put,List.setIfInBounds_toArray,List.set_cons_zero,List.set_cons_succ,Nat.zero_add,Nat.reduceAdd]
         clear hv
         have hJ2:bD w6.heap.size (w6.heap.size+1) wr.heap.size w6.heap.size f3 (l3,h3) (q1,q2) w6 wy:=hJ
         have hz3:=hJ2.S.lt
         have K3:=hJ2.K
         have S3:=hJ2.S
         have B3:=hJ2.B
         clear hJ2 hJ0
         go_wp2
         go_roundw
         case rel=>exact ⟨j+1,by omega,by go_num,by rw [←hf3.out];exact K3,by rw [←hl3.out,←hh3.out];exact S3,hz3,B3⟩
         case measure=>simp [intOf] <;> omega
      ·obtain rfl:NR=j:=by omega
       rw [←hnxt.out] at K S
       go_wp2
       go_roundw
       case rel=>exact ⟨i+1,by omega,by go_num,by rw [Bool.true_and];exact K,S,hz,Bw⟩
       case measure=>simp [intOf] <;> omega
    ·obtain rfl:NR=i:=by omega
     have hRl:=R.lt
     have nR:w6.heap.size≠w.heap.size+1:=by omega
     have nR2:w6.heap.size+1≠w.heap.size+1:=by omega
     have nS:w6.heap.size+1≠w6.heap.size:=by omega
     have R0:=R.keep Bw
     have B0:=B.trans (Bw.mono hs6)
     have hw0:=B0.size
     have ⟨s0,s1,_,_,_⟩:=S.box
     clear R
     go_wp2_with (go_at_call 41;(with_reducible refine (PT.out w6.heap.size _ K).mono ?_);rintro e w9 ⟨rfl,hb9⟩;(have hb2:=aU hb9);(have K9:=(K.one (.bool fV)).keep hb2);(have S9:=(S.other (i:=0) (fun e=>nS e) (.bool fV)).keep hb2);(have R9:=(R0.other (i:=0) (fun e=>nR e.symm) (.bool fV)).keep hb2);(have B9:=(Below.setCell B0 hs6 (.bool fV)).trans (hb9.mono hw0));(clear s0 s1);(have ⟨s0,s1,s2,s3,s4⟩:=S9.box))
     have hJ0:=Lib.hid (show bj w6.heap.size (w6.heap.size+1) (w.heap.size+1) w.heap.size fV (lV,hV) w ((w9.setCell ⟨w6.heap.size+1,0,none⟩ (.int .i64 lV)).setCell ⟨w6.heap.size+1,1,none⟩ (.int .i64 hV))∧aG ((w9.setCell ⟨w6.heap.size+1,0,none⟩ (.int .i64 lV)).setCell ⟨w6.heap.size+1,1,none⟩ (.int .i64 hV)) (w.heap.size+1) 38 #[.int .i64 0,.int .i64 0,.int .i64 0,.int .i64 0] from ⟨⟨(K9.other (fun e=>nS e.symm) _).other (fun e=>nS e.symm) _,aG.set2 S9 _ _,Below.setCell (Below.setCell B9 (by exact Nat.le_succ_of_le hs6) _) (by exact Nat.le_succ_of_le hs6) _,nR,nR2,by omega⟩,(R9.other (fun e=>nR2 e.symm) _).other (fun e=>nR2 e.symm) _⟩)
     clear K S R0 B0 Bw K9 S9 R9 B9 s0 s1 s2 s3 s4 hb2 hb9
     go_upto_region 17 with fail
     refine Rg.walkC (fun k v W=>dj k w6.heap.size (w6.heap.size+1) (w.heap.size+1) w.heap.size fV (lV,hV) i1 i2 i3 i4 w (v 5) W) [5,8] [.agg #[.int .i64 lV,.int .i64 hV],.pointer (some ⟨w6.heap.size,0,none⟩),.pointer (some ⟨w6.heap.size,0,none⟩),.pointer (some ⟨w6.heap.size,0,none⟩),.bool fV,undef,.agg #[.int .i64 i1,.int .i64 i2,.int .i64 i3,.int .i64 i4],.bool fV,undef,.bool fV] (by kernel_rfl) (by kernel_rfl) (by kernel_rfl) (by decide) (fun k v v2 W h hj=>by rw [←h 5 (by decide)];exact hj) (fun _=>⟨hJ0.out.1.drew,hJ0.out.2⟩) ⟨?_,?_,?_,?_,?_,?_,?_,?_,?_,?_,trivial⟩ ?_
     ·unfold Rg.OwedC1
      rw [if_neg (by decide)]
      intro ac_ w_ n_ vals_ hn_ hJ hr
      refine ⟨rfl,?_⟩
      have e11:ac_.tmps[11]?=some (.pointer (some ⟨w6.heap.size+1,0,none⟩)):=hr 11 (by decide)
      have hS_:=(dj.st hJ).S
      have ⟨k0,k1,_,_,_⟩:=hS_.box
      (first | (go_simp;done) | (go_simp;omega))
     ·unfold Rg.OwedC1
      rw [if_neg (by decide)]
      intro ac_ w_ n_ vals_ hn_ hJ hr
      refine ⟨rfl,?_⟩
      have e10:ac_.tmps[10]?=some (.pointer (some ⟨w6.heap.size,0,none⟩)):=hr 10 (by decide)
      go_simp
     ·unfold Rg.OwedC1
      rw [if_neg (by decide)]
      intro ac_ w_ n_ vals_ hn_ hJ hr
      refine ⟨rfl,?_⟩
      have e78:ac_.tmps[78]?=some (.pointer (some ⟨w6.heap.size,0,none⟩)):=hr 78 (by decide)
      (first | (go_simp;done) | (go_simp;omega))
     ·unfold Rg.OwedC1
      rw [if_neg (by decide)]
      intro ac_ w_ n_ vals_ hn_ hJ hr
      refine ⟨rfl,?_⟩
      have e79:ac_.tmps[79]?=some (.pointer (some ⟨w6.heap.size,0,none⟩)):=hr 79 (by decide)
      go_simp
     ·unfold Rg.OwedC1
      rw [if_neg (by decide)]
      intro ac_ w_ n_ vals_ hn_ hJ hr
      refine ⟨rfl,?_⟩
      have e80:ac_.tmps[80]?=some (.pointer (some ⟨w6.heap.size,0,none⟩)):=hr 80 (by decide)
      have hK_:=(dj.st hJ).K
      have k0:=hK_.cell 0
      (first | (go_simp;done) | (go_simp;omega))
     ·unfold Rg.OwedC1
      rw [if_pos (by decide)]
      intro ac_ w_ vals_ hJ hr
      have e77:ac_.tmps[77]?=some (.agg #[.int .i64 lV,.int .i64 hV]):=hr 77 (by decide)
      have e81:ac_.tmps[81]?=some (.bool fV):=hr 81 (by decide)
      have ef:∀ f,ac_.eval (.func f)=.func (.func f) #[] #[]:=fun _=>rfl
      refine ⟨rfl,?_⟩
      have h0_:bj w6.heap.size (w6.heap.size+1) (w.heap.size+1) w.heap.size fV (lV,hV) w w_∧aG w_ (w.heap.size+1) 38 #[.int .i64 0,.int .i64 0,.int .i64 0,.int .i64 0]:=hJ
      refine Rg.callC (by go_simp;exact ⟨rfl,rfl⟩) ?_
      refine (PI.out _).mono ?_
      rintro e w5_ ⟨rfl,hb_⟩
      exact ⟨_,rfl,⟨h0_.1.keep hb_ h0_.1.B.size,h0_.2.keep hb_⟩,rfl⟩
     ·unfold Rg.OwedC1
      rw [if_neg (by decide)]
      intro ac_ w_ n_ vals_ hn_ hJ hr
      refine ⟨rfl,?_⟩
      have e82:ac_.tmps[82]?=some (vals_ 5):=hr 82 (by decide)
      have hn2_:=hn_.2.2 5 (by decide) (by kernel_rfl)
      have e5_:vals_ 5=.tuple #[.agg #[.int .i64 i1,.int .i64 i2,.int .i64 i3,.int .i64 i4],.bool fV]:=dj.val hJ (Nat.lt_of_le_of_lt (Nat.zero_le _) hn2_)
      rw [e5_] at e82
      (first | (go_simp;done) | (go_simp;omega))
     ·unfold Rg.OwedC1
      rw [if_neg (by decide)]
      intro ac_ w_ n_ vals_ hn_ hJ hr
      refine ⟨rfl,?_⟩
      have e82:ac_.tmps[82]?=some (vals_ 5):=hr 82 (by decide)
      have hn2_:=hn_.2.2 5 (by decide) (by kernel_rfl)
      have e5_:vals_ 5=.tuple #[.agg #[.int .i64 i1,.int .i64 i2,.int .i64 i3,.int .i64 i4],.bool fV]:=dj.val hJ (Nat.lt_of_le_of_lt (Nat.zero_le _) hn2_)
      rw [e5_] at e82
      (first | (go_simp;done) | (go_simp;omega))
     ·unfold Rg.OwedC1
      rw [if_pos (by decide)]
      intro ac_ w_ vals_ hJ hr
      have e6:ac_.tmps[6]?=some (.pointer (some ⟨w.heap.size+1,0,none⟩)):=hr 6 (by decide)
      have e83:ac_.tmps[83]?=some (.agg #[.int .i64 i1,.int .i64 i2,.int .i64 i3,.int .i64 i4]):=hr 83 (by decide)
      refine ⟨rfl,?_⟩
      obtain ⟨⟨h0_,hR_⟩,e5_⟩:(bj w6.heap.size (w6.heap.size+1) (w.heap.size+1) w.heap.size fV (lV,hV) w w_∧aG w_ (w.heap.size+1) 38 #[.int .i64 0,.int .i64 0,.int .i64 0,.int .i64 0])∧vals_ 5=.tuple #[.agg #[.int .i64 i1,.int .i64 i2,.int .i64 i3,.int .i64 i4],.bool fV]:=hJ
      have h9_:=h0_.put4 hR_ i1 i2 i3 i4
      have ⟨y0,y1,y2,y3,y4,y5,y6,y7,y8⟩:=hR_.boxQ
      clear h0_ hR_
      unfold Oper.wp
      go_simp
      all_goals first | exact ⟨h9_,e5_⟩ | exact ⟨_,rfl,h9_,e5_⟩ | exact ⟨undef,h9_,e5_⟩
     ·unfold Rg.OwedC1
      rw [if_neg (by decide)]
      intro ac_ w_ n_ vals_ hn_ hJ hr
      refine ⟨rfl,?_⟩
      have e84:ac_.tmps[84]?=some (.bool fV):=hr 84 (by decide)
      go_simp
     ·intro vals3 wy hJ hv
      have v_9:vals3 9=.bool fV:=hv 9 (by decide) (by decide)
      simp only [Rg.fill,if_true,Act.put,List.setIfInBounds_toArray,List.set_cons_zero,List.set_cons_succ,Nat.zero_add,Nat.reduceAdd]
      clear hv
      simp only [v_9]
      clear v_9
      have hJ2:bj w6.heap.size (w6.heap.size+1) (w.heap.size+1) w.heap.size fV (lV,hV) w wy∧aG wy (w.heap.size+1) 38 #[.int .i64 i1,.int .i64 i2,.int .i64 i3,.int .i64 i4]:=hJ.1
      have B7:=hJ2.1.B
      have R7:=hJ2.2
      have ⟨r0,r1,r2,r3,_,_,_,_,_⟩:=R7.boxQ
      clear hJ2 hJ0 hJ
      go_wp2
      exact bodyPost_ret (v:=.tuple #[.agg #[.int .i64 i1,.int .i64 i2,.int .i64 i3,.int .i64 i4],.bool fV]) (by simp [results,Tryz.results15,go_sem, *]) rfl (⟨rfl,B7⟩)
end
end Go.Proofs.YthfjndmdalfloaaGreat
