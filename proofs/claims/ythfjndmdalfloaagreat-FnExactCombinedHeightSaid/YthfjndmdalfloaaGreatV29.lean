/-
  Joined texts: contracts and plain lemmas.
-/
import Derived.Test.YthfjndmdalfloaaGreatV28
import Derived.Test.YthfjndmdalfloaaGreatV27
set_option linter.unusedSimpArgs false
set_option linter.unusedVariables false
set_option maxRecDepth 100000
set_option maxHeartbeats 8000000
namespace Go.Proofs.YthfjndmdalfloaaGreat
section
open Go.RowKit
theorem M.com_no {n:List Int} {m:M.Mat} {i j:Nat} {r:List (Int × Int)} {s:M.Sp} (hr:m[i]?=some r) (hs:M.comTo n m i=s) (h:M.comRow n i r s j=none) (hj:j≤r.length):M.comS n m=none:=by
 have h1:M.comTo n m (i+1)=none:=by rw [M.comTo_next hr,hs];exact M.comRow_stop h _ hj
 exact M.comS_none (M.comTo_stop h1 _ (List.getElem?_eq_some_iff.1 hr).1 (Nat.le_refl _))
theorem dJ (a b:Int) (v nv:Value) (l:List Pt) (n:List Int) (w:World) (hx:dk w v l) (hnx:bC w w.heap.size nv n) (hn:l.length≤4000000) :
  Calls Tryz.prog 13 #[.agg #[.int .i64 a,.int .i64 b],v,nv] w fun e w'=>e=.returned (.tuple #[.agg #[.int .i64 (M.in1 (M.comV a b l n)),.int .i64 (M.in2 (M.comV a b l n)),.int .i64 (M.in3 (M.comV a b l n)),.int .i64 (M.in4 (M.comV a b l n))],.bool (M.comV a b l n).isSome])∧Below w.heap.size w w':=by
 have PL:=fun W h=>kF a b v l W h hn
 have PM:=fun (hp:M.plist a b l=true) W h=>iq a b v l W h (M.plist_is hp).1 (M.plist_is hp).2.2.1 (M.plist_is hp).2.2.2
 have hpl:=fun h=>M.plist_is (a:=a) (b:=b) (l:=l) h
 have eno:=fun h=>M.comV_no (a:=a) (b:=b) (l:=l) (n:=n) h
 have eyes:=fun h=>M.comV_yes (a:=a) (b:=b) (l:=l) (n:=n) h
 have hcok:M.comOk a b l n=(M.plist a b l && M.fits n l.length):=rfl
 rw [hcok] at eno eyes
 clear hcok
 have hsq:=fun h=>M.pRows_sq (a:=a) (b:=b) (l:=l) h
 have hok:=fun h=>M.pRows_ok (a:=a) (b:=b) (l:=l) h
 have hiv:=fun h=>M.mRows_iv (a:=a) (b:=b) (l:=l) h
 obtain ⟨pa,pcap,hpv,-⟩:=id hx
 have PF:=fun W (h:bC W W.heap.size nv n)=>gO pa l.length pcap nv n W h
 rw [←hpv] at PF
 clear hpv
 obtain ⟨na,ncap,hnv,hnl,hnc⟩:=hnx
 have hnx:=Lib.hid (show bC w w.heap.size nv n from ⟨na,ncap,hnv,hnl,hnc⟩)
 subst hnv
 clear hnc
 replace hx:=Lib.hid hx
 have P0:=Lib.hid fun W=>jD 0 W
 obtain ⟨wc,hw3,C,R,B⟩:=i9 w #[.int .i64 a,.int .i64 b] 28 #[.int .i64 0,.int .i64 0,.int .i64 0,.int .i64 0] 38
 have C_c0:=C.box.c0
 have C_c1:=C.box.c1
 have ⟨r0,r1,r2,r3,z0,z1,z2,z3,rl⟩:=R.boxQ
 cases hp:M.plist a b l with
 | false=>
  rw [hp] at PL eno
  have hfin:=Lib.hid (eno rfl)
  replace PL:=Lib.hid PL
  clear PM PF eno eyes hp hsq hok hpl hiv
  go_enter Tryz.func13,Tryz.ntmps13
  go_wp2_with (go_at_call 26;(with_reducible refine (PL.out _ (hx.out.below B)).mono ?_);rintro e w4 ⟨rfl,hb4⟩;(replace B:=B.trans (hb4.mono B.size));(replace C:=C.keep hb4);(replace R:=R.keep hb4);(have C_c0:=C.box.c0);(have C_c1:=C.box.c1);(have ⟨r0,r1,r2,r3,z0,z1,z2,z3,rl⟩:=R.boxQ))
  exact bodyPost_ret (v:=.tuple #[.agg #[.int .i64 0,.int .i64 0,.int .i64 0,.int .i64 0],.bool false]) (by simp [results,Tryz.results13,go_sem, *]) rfl (⟨by rw [hfin.out];rfl,Below.setCell (Below.setCell (Below.setCell (Below.setCell B (by simp) _) (by simp) _) (by simp) _) (by simp) _⟩)
 | true=>
  rw [hp] at PL eno eyes
  replace PL:=Lib.hid PL
  cases hft:M.fits n l.length with
  | false=>
   rw [hft] at PF eno
   have hfin:=Lib.hid (eno rfl)
   replace PF:=Lib.hid PF
   clear PM eno eyes hp hsq hok hpl hiv hft
   go_enter Tryz.func13,Tryz.ntmps13
   go_wp2_with first | (go_at_call 26;(with_reducible refine (PL.out _ (hx.out.below B)).mono ?_);rintro e w4 ⟨rfl,hb4⟩;(replace B:=B.trans (hb4.mono B.size));(replace C:=C.keep hb4);(replace R:=R.keep hb4);(have C_c0:=C.box.c0);(have C_c1:=C.box.c1);(have ⟨r0,r1,r2,r3,z0,z1,z2,z3,rl⟩:=R.boxQ)) | (go_at_call 32;(with_reducible refine (PF.out _ ((hnx.out.below B).mono B.size)).mono ?_);rintro e w5 ⟨rfl,hb5⟩;(replace B:=B.trans (hb5.mono B.size));(replace C:=C.keep hb5);(replace R:=R.keep hb5);(have C_c0:=C.box.c0);(have C_c1:=C.box.c1);(have ⟨r0,r1,r2,r3,z0,z1,z2,z3,rl⟩:=R.boxQ))
   exact bodyPost_ret (v:=.tuple #[.agg #[.int .i64 0,.int .i64 0,.int .i64 0,.int .i64 0],.bool false]) (by simp [results,Tryz.results13,go_sem, *]) rfl (⟨by rw [hfin.out];rfl,Below.setCell (Below.setCell (Below.setCell (Below.setCell B (by simp) _) (by simp) _) (by simp) _) (by simp) _⟩)
  | true=>
   rw [hft] at PF eno eyes
   replace PF:=Lib.hid PF
   obtain ⟨-,hl1,hl4,-⟩:=hpl hp
   replace PM:=PM hp
   cases hmo:M.mOk a b l with
   | false=>
    rw [hmo] at PM eno
    have hfin:=Lib.hid (eno rfl)
    replace PM:=Lib.hid PM
    clear eno eyes hp hsq hok hpl hiv hft hmo
    go_enter Tryz.func13,Tryz.ntmps13
    go_wp2_with first | (go_at_call 26;(with_reducible refine (PL.out _ (hx.out.below B)).mono ?_);rintro e w4 ⟨rfl,hb4⟩;(replace B:=B.trans (hb4.mono B.size));(replace C:=C.keep hb4);(replace R:=R.keep hb4);(have C_c0:=C.box.c0);(have C_c1:=C.box.c1);(have ⟨r0,r1,r2,r3,z0,z1,z2,z3,rl⟩:=R.boxQ)) | (go_at_call 32;(with_reducible refine (PF.out _ ((hnx.out.below B).mono B.size)).mono ?_);rintro e w5 ⟨rfl,hb5⟩;(replace B:=B.trans (hb5.mono B.size));(replace C:=C.keep hb5);(replace R:=R.keep hb5);(have C_c0:=C.box.c0);(have C_c1:=C.box.c1);(have ⟨r0,r1,r2,r3,z0,z1,z2,z3,rl⟩:=R.boxQ)) | (go_at_call 33;(with_reducible refine (PM.out _ (hx.out.below B)).mono ?_);rintro e w6 ⟨mv,rfl,hM,hb6⟩;(replace B:=B.trans (hb6.mono B.size));(replace C:=C.keep hb6);(replace R:=R.keep hb6);(have C_c0:=C.box.c0);(have C_c1:=C.box.c1);(have ⟨r0,r1,r2,r3,z0,z1,z2,z3,rl⟩:=R.boxQ))
    exact bodyPost_ret (v:=.tuple #[.agg #[.int .i64 0,.int .i64 0,.int .i64 0,.int .i64 0],.bool false]) (by simp [results,Tryz.results13,go_sem, *]) rfl (⟨by rw [hfin.out];rfl,Below.setCell (Below.setCell (Below.setCell (Below.setCell B (by simp) _) (by simp) _) (by simp) _) (by simp) _⟩)
   | true=>
    rw [hmo] at PM eyes
    rw [hiv hmo] at PM
    have hV:=eyes rfl
    replace hsq:=hsq hmo
    replace hok:=hok hmo
    clear eno eyes hp hpl hiv hmo
    obtain ⟨N,hN⟩:∃ N,N=l.length:=⟨_,rfl⟩
    rw [←hN] at hl1 hl4 hsq hft
    obtain ⟨rows,hrows⟩:∃ x,x=M.pRows a b l:=⟨_,rfl⟩
    rw [←hrows] at hsq hok PM hV
    have hfl:=(M.fits_is hft).1
    rw [hfl] at hnl
    have hlr:rows.length=N:=hsq.1
    have hlm:(M.ivM rows).length=N:=by rw [M.ivM_len];exact hlr
    have hmr:=Lib.hid hsq.2
    have hnone:=Lib.hid (fun i j r s hr hs h hj=>hV.trans (M.com_no (n:=n) (m:=rows) (i:=i) (j:=j) (r:=r) (s:=s) hr hs h hj))
    have hft:=Lib.hid hft
    have hok:=Lib.hid hok
    have hV:=Lib.hid hV
    have hlr:=Lib.hid hlr
    rw [hfl] at PF hnx ⊢
    replace hN:=Lib.hid hN
    replace hfl:=Lib.hid hfl
    replace PM:=Lib.hid PM
    clear hrows hsq
    have hlm:=Lib.hid hlm
    go_enter Tryz.func13,Tryz.ntmps13
    go_wp2_with first | (go_at_call 26;(with_reducible refine (PL.out _ (hx.out.below B)).mono ?_);rintro e w4 ⟨rfl,hb4⟩;(replace B:=B.trans (hb4.mono B.size));(replace C:=C.keep hb4);(replace R:=R.keep hb4);(have C_c0:=C.box.c0);(have C_c1:=C.box.c1);(have ⟨r0,r1,r2,r3,z0,z1,z2,z3,rl⟩:=R.boxQ)) | (go_at_call 32;(with_reducible refine (PF.out _ ((hnx.out.below B).mono B.size)).mono ?_);rintro e w5 ⟨rfl,hb5⟩;(replace B:=B.trans (hb5.mono B.size));(replace C:=C.keep hb5);(replace R:=R.keep hb5);(have C_c0:=C.box.c0);(have C_c1:=C.box.c1);(have ⟨r0,r1,r2,r3,z0,z1,z2,z3,rl⟩:=R.boxQ)) | (go_at_call 33;(with_reducible refine (PM.out _ (hx.out.below B)).mono ?_);rintro e w6 ⟨mv,rfl,⟨vs,hM⟩,hb6⟩;(have hs6:=Nat.le_trans B.size hb6.size);(replace B:=B.trans (hb6.mono B.size));(replace R:=R.keep hb6);(clear C C_c0 C_c1 r0 r1 r2 r3 z0 z1 z2 z3 rl);obtain ⟨ma,mcap,rfl,-,-⟩:=hM.view;(replace hM:=Lib.hid hM);(rw [hlm.out]);(have Bw:=Below.refl w6.heap.size w6)) | (go_at_call 34;(with_reducible refine (P0.out _).mono ?_);rintro e w7 ⟨rfl,hb7⟩;(replace Bw:=Bw.trans (hb7.mono Bw.size)))
    rw [hlm.out] at hM
    have S:=aG.new w7 #[.int .i64 0,.int .i64 1,.int .i64 0,.int .i64 1] 38
    have hb8:=bA w7 (.cells #[.int .i64 0,.int .i64 1,.int .i64 0,.int .i64 1] 38)
    have hs7:=Bw.size
    replace Bw:=Bw.alloc hs7 (.cells #[.int .i64 0,.int .i64 1,.int .i64 0,.int .i64 1] 38)
    have hsl:=S.lt
    have nSR:w7.heap.size≠w.heap.size+1:=by have:=R.lt;omega
    clear hb8
    go_loopw [45] (fun vi wq=>∃ (i:Nat) (s:Int × Int),i≤N∧vi=.int .i64 (i:Int)∧Hid (M.comTo n rows i=some s)∧aG wq w7.heap.size 38 #[.int .i64 (M.in1 (some s)),.int .i64 (M.in2 (some s)),.int .i64 (M.in3 (some s)),.int .i64 (M.in4 (some s))]∧w7.heap.size<wq.heap.size∧Below w6.heap.size w6 wq) (fun vi _=>N - (intOf vi).toNat)
    case atStart=>
     obtain ⟨e1,e2,e3,e4⟩:=M.in_zero
     exact ⟨0,(0,0),Nat.zero_le _,rfl,Lib.hid rfl,by rw [e1,e2,e3,e4];exact S,hsl,Bw⟩
    case round=>
     clear S Bw hsl
     generalize w7.heap.size=sb at *
     obtain ⟨i,s0,hi,rfl,hs0,S,hz,Bw⟩:=hrel
     by_cases hlt:i<N
     ·obtain ⟨r,hr⟩:∃ r,rows[i]?=some r:=⟨_,List.getElem?_eq_getElem (by have:=hlr.out;omega)⟩
      have hrl:r.length=N:=hmr.out r (List.mem_of_getElem? hr)
      obtain ⟨rN,hrN⟩:∃ x,x=r.map fun q=>M.ivc (some q):=⟨_,rfl⟩
      have hrN2:(M.ivM rows)[i]?=some rN:=by rw [hrN];exact M.ivM_at hr
      have hrNl:rN.length=N:=by rw [hrN,List.length_map];exact hrl
      have hmi:=Lib.hid (hM.out.below Bw)
      obtain ⟨gi,capi,hvi,hci,hgi⟩:=hmi.out.rowIs hrN2 (fun h=>by rw [h] at hrNl;simp only [List.length_nil] at hrNl;omega)
      obtain ⟨gm,hgm⟩:∃ gm,ma=some ⟨gm,0,none⟩:=by
       obtain ⟨g_,c_,e_,-⟩:=hM.out.form (fun h=>by have:=hlm.out;rw [h] at this;simp only [List.length_nil] at this;omega)
       injection e_ with e_ _ _
       exact ⟨g_,e_⟩
      subst hgm
      have kri:=hmi.out.rowCell hvi
      rw [hrNl] at kri
      have hro:=Lib.hid (hok.out r (List.mem_of_getElem? hr))
      have hnxt:=M.comTo_next (n:=n) hr
      rw [hrl,hs0.out] at hnxt
      have hnxt:=Lib.hid hnxt
      have hno:=Lib.hid (fun j h hj=>hnone.out i j r (some s0) hr hs0.out h (by rw [hrl];exact hj))
      have hs0k:M.spanOk s0.1 s0.2=true:=M.okS_comTo (n:=n) (m:=rows) i s0 hs0.out
      have hs0k:=Lib.hid hs0k
      obtain ⟨ni,na1,na2⟩:=M.fits_at hft.out hlt
      have ni:=Lib.hid ni
      have hvi:=Lib.hid hvi
      have hrN:=Lib.hid hrN
      have hrN2:=Lib.hid hrN2
      have hrl:=Lib.hid hrl
      clear hmi hci hgi hr hrNl
      generalize hwo:wr=wo at *
      clear hwo
      go_wp2
      go_loopw [52] (fun vj wq=>∃ (j:Nat) (s:Int × Int),j≤N∧vj=.int .i64 (j:Int)∧Hid (M.comRow n i r (some s0) j=some s)∧aG wq sb 38 #[.int .i64 (M.in1 (some s)),.int .i64 (M.in2 (some s)),.int .i64 (M.in3 (some s)),.int .i64 (M.in4 (some s))]∧sb<wq.heap.size∧Below w6.heap.size w6 wq) (fun vj _=>N - (intOf vj).toNat)
      case atStart=>exact ⟨0,s0,Nat.zero_le _,rfl,Lib.hid rfl,S,hz,Bw⟩
      case round=>
       clear S Bw hz kri
       obtain ⟨j,s,hj,rfl,hs,S,hz,Bw⟩:=hrel
       by_cases hlt2:j<N
       ·obtain ⟨q,hq⟩:∃ q,r[j]?=some q:=⟨_,List.getElem?_eq_getElem (by have:=hrl.out;omega)⟩
        have hqN:rN[j]?=some (M.ivc (some q)):=by rw [hrN.out,List.getElem?_map,hq];rfl
        obtain ⟨d0,d1,d2,d3⟩:=((hM.out.below Bw).rowFrom hvi.out hrN2.out).at4 hqN
        simp only [M.ivc] at d0 d1 d2 d3
        have hqs:=hro.out q (List.mem_of_getElem? hq)
        have hss:M.spanOk s.1 s.2=true:=M.okS_comRow (n:=n) (i:=i) (r:=r) (s:=some s0) (fun p hp=>by obtain rfl:=Option.some.inj hp;exact hs0k.out) j s hs.out
        obtain ⟨nj,nb1,nb2⟩:=M.fits_at hft.out hlt2
        have hnj:=M.comRow_next n i r (some s0) j
        rw [hq,hs.out] at hnj
        have hno:=Lib.hid (fun h=>hno.out (j+1) h hlt2)
        have PT:=fun W (h1:-144≤n.getD i 0*n.getD j 0) h2=>jk q (n.getD i 0*n.getD j 0) W hqs h1 h2
        have ecx:M.comX n i j=(n.getD i 0*n.getD j 0*4096,n.getD i 0*n.getD j 0*4096):=rfl
        rw [ecx] at hnj
        have SN:=(hnx.out.below B).below (Bw.mono hs6)
        obtain ⟨gn,hgn,ci⟩:=SN.at ni.out
        obtain ⟨gn2,hgn2,cj⟩:=SN.at nj
        rw [hgn] at hgn2
        obtain rfl:gn=gn2:=by injection hgn2 with h;injection h
        clear hgn2 SN nj ecx hqs hq hqN
        subst hgn
        obtain ⟨x1,hx1⟩:∃ x,x=n.getD i 0:=⟨_,rfl⟩
        obtain ⟨x2,hx2⟩:∃ x,x=n.getD j 0:=⟨_,rfl⟩
        rw [←hx1] at ci na1 na2
        rw [←hx2] at cj nb1 nb2
        rw [←hx1,←hx2] at PT hnj
        clear hx1 hx2
        obtain ⟨hxx1,hxx2⟩:=M.prod12 na1 na2 nb1 nb2
        replace PT:=fun W=>PT W hxx1 hxx2
        obtain ⟨pp,hpp⟩:∃ x,x=M.mulS (some (x1*x2*4096,x1*x2*4096)) (some q):=⟨_,rfl⟩
        have hpo:M.okS pp:=by rw [hpp];exact M.okS_mul
        rw [←hpp] at PT hnj
        have hpo:=Lib.hid hpo
        have hnj:=Lib.hid hnj
        clear hpp
        obtain ⟨p1,hp1⟩:∃ x,x=M.in1 pp:=⟨_,rfl⟩
        obtain ⟨p2,hp2⟩:∃ x,x=M.in2 pp:=⟨_,rfl⟩
        obtain ⟨p3,hp3⟩:∃ x,x=M.in3 pp:=⟨_,rfl⟩
        obtain ⟨p4,hp4⟩:∃ x,x=M.in4 pp:=⟨_,rfl⟩
        obtain ⟨fp,hfp⟩:∃ x,x=pp.isSome:=⟨_,rfl⟩
        rw [←hp1,←hp2,←hp3,←hp4,←hfp] at PT
        replace hp1:=Lib.hid hp1
        replace hp2:=Lib.hid hp2
        replace hp3:=Lib.hid hp3
        replace hp4:=Lib.hid hp4
        replace hfp:=Lib.hid hfp
        generalize M.in1 (some q)=q1 at *
        generalize M.in2 (some q)=q2 at *
        generalize M.in3 (some q)=q3 at *
        generalize M.in4 (some q)=q4 at *
        obtain ⟨s1,hs1⟩:∃ x,x=M.in1 (some s):=⟨_,rfl⟩
        obtain ⟨s2,hs2⟩:∃ x,x=M.in2 (some s):=⟨_,rfl⟩
        obtain ⟨s3,hs3⟩:∃ x,x=M.in3 (some s):=⟨_,rfl⟩
        obtain ⟨s4,hs4⟩:∃ x,x=M.in4 (some s):=⟨_,rfl⟩
        rw [←hs1,←hs2,←hs3,←hs4] at S
        replace hs1:=Lib.hid hs1
        replace hs2:=Lib.hid hs2
        replace hs3:=Lib.hid hs3
        replace hs4:=Lib.hid hs4
        replace PT:=Lib.hid PT
        have hii:((i:Nat):Int)<(N:Int):=by omega
        have hjj:((j:Nat):Int)<(N:Int):=by omega
        have Bv:=bA wr (.cells #[.int .i64 q1,.int .i64 q2,.int .i64 q3,.int .i64 q4] 38)
        have X:=aG.new wr #[.int .i64 q1,.int .i64 q2,.int .i64 q3,.int .i64 q4] 38
        replace S:=S.keep Bv
        replace Bw:=Bw.trans (Bv.mono Bw.size)
        replace ci:=aE Bv ci
        replace cj:=aE Bv cj
        have hX:=X.lt
        generalize hw2:wr.alloc (.cells #[.int .i64 q1,.int .i64 q2,.int .i64 q3,.int .i64 q4] 38)=wb at *
        clear Bv
        go_upto_region 13 with fail
        refine Rg.walkN 14 15 38 #[.int .i64 0,.int .i64 0,.int .i64 0,.int .i64 0] #[.int .i64 p1,.int .i64 p2,.int .i64 p3,.int .i64 p4] [.is (.agg #[.int .i64 q1,.int .i64 q2,.int .i64 q3,.int .i64 q4]),.is (.slice (some ⟨gn,0,none⟩) N ncap),.is (.int .i64 ((i:Nat):Int)),.is (.pointer (some ⟨gn,i,none⟩)),.is (.int .i64 x1),.is (.slice (some ⟨gn,0,none⟩) N ncap),.is (.int .i64 ((j:Nat):Int)),.is (.pointer (some ⟨gn,j,none⟩)),.is (.int .i64 x2),.is (.int .i64 (x1*x2)),.is (.tuple #[.agg #[.int .i64 p1,.int .i64 p2,.int .i64 p3,.int .i64 p4],.bool fp]),.is (.tuple #[.agg #[.int .i64 p1,.int .i64 p2,.int .i64 p3,.int .i64 p4],.bool fp]),.is (.agg #[.int .i64 p1,.int .i64 p2,.int .i64 p3,.int .i64 p4]),.is (.bool fp),.is (undef),.is (undef),.is (.bool fp)] (by kernel_rfl) (by kernel_rfl) (by kernel_rfl) (fun j h1 h2=>match j,h1,h2 with | 0,h1,h2=>rfl | 1,h1,h2=>rfl | 2,h1,h2=>rfl | 3,h1,h2=>rfl | 4,h1,h2=>rfl | 5,h1,h2=>rfl | 6,h1,h2=>rfl | 7,h1,h2=>rfl | 8,h1,h2=>rfl | 9,h1,h2=>rfl | 10,h1,h2=>rfl | 11,h1,h2=>rfl | 12,h1,h2=>rfl | 13,h1,h2=>rfl | 14,h1,h2=>absurd rfl h1 | 15,h1,h2=>absurd rfl h2 | 16,h1,h2=>rfl | n+17,_,_=>rfl) (by decide) ⟨?_,?_,?_,?_,?_,?_,?_,?_,?_,?_,?_,?_,?_,?_,?_,?_,?_,trivial⟩ ?_
        ·unfold Rg.OwedN1
         rw [if_neg (by decide),if_neg (by decide)]
         intro ac_ w_ hB hr
         have e14:ac_.tmps[14]?=some (.pointer (some ⟨wr.heap.size,0,none⟩)):=hr 14 (by decide)
         have k0:=aE hB X.boxQ.c0
         have k1:=aE hB X.boxQ.c1
         have k2:=aE hB X.boxQ.c2
         have k3:=aE hB X.boxQ.c3
         exact Rg.pure1 rfl (by go_simp)
        ·unfold Rg.OwedN1
         rw [if_neg (by decide),if_neg (by decide)]
         intro ac_ w_ hB hr
         have e2:ac_.tmps[2]?=some (.slice (some ⟨gn,0,none⟩) N ncap):=hr 2 (by decide)
         exact Rg.pure1 rfl (by go_simp)
        ·unfold Rg.OwedN1
         rw [if_neg (by decide),if_neg (by decide)]
         intro ac_ w_ hB hr
         have e11:ac_.tmps[11]?=some (.int .i64 ((i:Nat):Int)):=hr 11 (by decide)
         exact Rg.pure1 rfl (by go_simp)
        ·unfold Rg.OwedN1
         rw [if_neg (by decide),if_neg (by decide)]
         intro ac_ w_ hB hr
         have e59:=Rg.ev1 (hr 59 (by decide))
         have e60:=Rg.ev1 (hr 60 (by decide))
         exact Rg.pure1 rfl (by (first | (go_simp;done) | (go_simp;omega)))
        ·unfold Rg.OwedN1
         rw [if_neg (by decide),if_neg (by decide)]
         intro ac_ w_ hB hr
         have e61:=Rg.ev1 (hr 61 (by decide))
         have k0:=aE hB ci
         exact Rg.pure1 rfl (by (first | (go_simp;done) | (go_simp;omega)))
        ·unfold Rg.OwedN1
         rw [if_neg (by decide),if_neg (by decide)]
         intro ac_ w_ hB hr
         have e2:ac_.tmps[2]?=some (.slice (some ⟨gn,0,none⟩) N ncap):=hr 2 (by decide)
         exact Rg.pure1 rfl (by go_simp)
        ·unfold Rg.OwedN1
         rw [if_neg (by decide),if_neg (by decide)]
         intro ac_ w_ hB hr
         have e13:ac_.tmps[13]?=some (.int .i64 ((j:Nat):Int)):=hr 13 (by decide)
         exact Rg.pure1 rfl (by go_simp)
        ·unfold Rg.OwedN1
         rw [if_neg (by decide),if_neg (by decide)]
         intro ac_ w_ hB hr
         have e63:=Rg.ev1 (hr 63 (by decide))
         have e64:=Rg.ev1 (hr 64 (by decide))
         exact Rg.pure1 rfl (by (first | (go_simp;done) | (go_simp;omega)))
        ·unfold Rg.OwedN1
         rw [if_neg (by decide),if_neg (by decide)]
         intro ac_ w_ hB hr
         have e65:=Rg.ev1 (hr 65 (by decide))
         have k0:=aE hB cj
         exact Rg.pure1 rfl (by (first | (go_simp;done) | (go_simp;omega)))
        ·unfold Rg.OwedN1
         rw [if_neg (by decide),if_neg (by decide)]
         intro ac_ w_ hB hr
         have e62:=Rg.ev1 (hr 62 (by decide))
         have e66:=Rg.ev1 (hr 66 (by decide))
         exact Rg.pure1 rfl (by go_simp <;> exact Rg.wo (by omega))
        ·unfold Rg.OwedN1
         rw [if_neg (by decide),if_neg (by decide)]
         intro ac_ w_ hB hr
         have e58:=Rg.ev1 (hr 58 (by decide))
         have e67:=Rg.ev1 (hr 67 (by decide))
         have ef:=Rg.ef ac_
         exact Rg.callIs rfl (by go_simp) (PT.out _)
        ·unfold Rg.OwedN1
         rw [if_neg (by decide),if_neg (by decide)]
         intro ac_ w_ hB hr
         have e68:=Rg.ev1 (hr 68 (by decide))
         exact Rg.pure1 rfl (by go_simp)
        ·unfold Rg.OwedN1
         rw [if_neg (by decide),if_neg (by decide)]
         intro ac_ w_ hB hr
         have e57:=Rg.ev1 (hr 57 (by decide))
         exact Rg.pure1 rfl (by go_simp)
        ·unfold Rg.OwedN1
         rw [if_neg (by decide),if_neg (by decide)]
         intro ac_ w_ hB hr
         have e57:=Rg.ev1 (hr 57 (by decide))
         exact Rg.pure1 rfl (by go_simp)
        ·unfold Rg.OwedN1
         rw [if_pos rfl]
         intro ac_ w_
         exact Rg.allocP rfl (by first | (go_simp;done) | (go_simp;rfl))
        ·unfold Rg.OwedN1
         rw [if_neg (by decide),if_pos rfl]
         intro ac_ w_ h_ hh hn hr
         have e15:ac_.tmps[15]?=some (.pointer (some ⟨h_,0,none⟩)):=hr 15 (by decide)
         have e69:=Rg.ev1 (hr 69 (by decide))
         have ⟨y0,y1,y2,y3,x0,x1,x2,x3,_⟩:=hn.boxQ
         refine ⟨rfl,?_⟩
         unfold Oper.wp
         go_simp
         exact ⟨aG.set4 hn _ _ _ _,Below.setCell (Below.setCell (Below.setCell (Below.setCell (Below.refl _ _) hh _) hh _) hh _) hh _⟩
        ·unfold Rg.OwedN1
         rw [if_neg (by decide),if_neg (by decide)]
         intro ac_ w_ hB hr
         have e70:=Rg.ev1 (hr 70 (by decide))
         exact Rg.pure1 rfl (by go_simp)
        ·intro vals wz h_ hh hn v_14 hB hv
         have v_16:vals 16=.bool fp:=hv 16 (by decide) (by decide) (by decide)
         simp only [Rg.fill,if_true,Act.put,List.setIfInBounds_toArray,List.set_cons_zero,List.set_cons_succ,Nat.zero_add,Nat.reduceAdd]
         clear hv
         simp only [v_14,v_16]
         clear v_14 v_16
         replace S:=S.keep hB
         replace Bw:=Bw.trans (hB.mono Bw.size)
         have hzs:=S.lt
         have hh2:=hn.lt
         have R2:=R.keep Bw
         have ⟨r0,r1,r2,r3,z0,z1,z2,z3,rl⟩:=R2.boxQ
         have B2:=B.trans (Bw.mono hs6)
         clear X hX ci cj hB
         cases pp with
         | none=>
          obtain rfl:fp=false:=hfp.out
          have hfin:=Lib.hid (hno.out hnj.out)
          go_wp2
          exact bodyPost_ret (v:=.tuple #[.agg #[.int .i64 0,.int .i64 0,.int .i64 0,.int .i64 0],.bool false]) (by simp [results,Tryz.results13,go_sem, *]) rfl (⟨by rw [hfin.out];rfl,Below.setCell (Below.setCell (Below.setCell (Below.setCell B2 (by simp) _) (by simp) _) (by simp) _) (by simp) _⟩)
         | some p=>
          obtain rfl:fp=true:=hfp.out
          have PA:=fun W=>iF s p W hss (hpo.out p rfl)
          rw [←hs1.out,←hs2.out,←hs3.out,←hs4.out,←hp1.out,←hp2.out,←hp3.out,←hp4.out] at PA
          obtain ⟨ad,had⟩:∃ x,x=M.addS (some s) (some p):=⟨_,rfl⟩
          rw [←had] at PA
          have hnj2:=hnj.out.trans had.symm
          have hnj2:=Lib.hid hnj2
          clear had hnj hpo hp1 hp2 hp3 hp4 hfp
          have ⟨ks0,ks1,ks2,ks3,_,_,_,_,_⟩:=S.boxQ
          have ⟨kp0,kp1,kp2,kp3,_,_,_,_,_⟩:=hn.boxQ
          cases ad with
          | none=>
           have hfin:=Lib.hid (hno.out hnj2.out)
           have e9:=Lib.hid M.in_none
           rw [e9.out.1,e9.out.2.1,e9.out.2.2.1,e9.out.2.2.2.1,e9.out.2.2.2.2] at PA
           clear e9
           replace PA:=Lib.hid PA
           go_wp2_with (go_at_call 36;(with_reducible refine (PA.out _).mono ?_);rintro e w9 ⟨rfl,hb9⟩;(replace B2:=(B2.trans (hb9.mono B2.size)).alloc (Nat.le_trans B2.size hb9.size) (.cells #[.int .i64 0,.int .i64 0,.int .i64 0,.int .i64 0] 38));(replace R2:=(R2.keep hb9).alloc (.cells #[.int .i64 0,.int .i64 0,.int .i64 0,.int .i64 0] 38));(clear r0 r1 r2 r3 z0 z1 z2 z3 rl);(have ⟨r0,r1,r2,r3,z0,z1,z2,z3,rl⟩:=R2.boxQ))
           exact bodyPost_ret (v:=.tuple #[.agg #[.int .i64 0,.int .i64 0,.int .i64 0,.int .i64 0],.bool false]) (by simp [results,Tryz.results13,go_sem, *]) rfl (⟨by rw [hfin.out];rfl,Below.setCell (Below.setCell (Below.setCell (Below.setCell B2 (by simp) _) (by simp) _) (by simp) _) (by simp) _⟩)
          | some sx=>
           have e5:(some sx:M.Sp).isSome=true:=rfl
           rw [e5] at PA
           clear e5
           obtain ⟨y1,hy1⟩:∃ x,x=M.in1 (some sx):=⟨_,rfl⟩
           obtain ⟨y2,hy2⟩:∃ x,x=M.in2 (some sx):=⟨_,rfl⟩
           obtain ⟨y3,hy3⟩:∃ x,x=M.in3 (some sx):=⟨_,rfl⟩
           obtain ⟨y4,hy4⟩:∃ x,x=M.in4 (some sx):=⟨_,rfl⟩
           rw [←hy1,←hy2,←hy3,←hy4] at PA
           replace hy1:=Lib.hid hy1
           replace hy2:=Lib.hid hy2
           replace hy3:=Lib.hid hy3
           replace hy4:=Lib.hid hy4
           replace PA:=Lib.hid PA
           clear B2 R2 r0 r1 r2 r3 z0 z1 z2 z3 rl
           go_wp2_with (go_at_call 36;(with_reducible refine (PA.out _).mono ?_);rintro e w9 ⟨rfl,hb9⟩;(have B9:=(bA w9 (.cells #[.int .i64 y1,.int .i64 y2,.int .i64 y3,.int .i64 y4] 38)));(replace S:=(S.keep hb9).keep B9);(replace Bw:=(Bw.trans (hb9.mono Bw.size)).trans (B9.mono (Nat.le_trans Bw.size hb9.size)));(have Y:=aG.new w9 #[.int .i64 y1,.int .i64 y2,.int .i64 y3,.int .i64 y4] 38);(have ⟨y0_,y1_,y2_,y3_,_,_,_,_,_⟩:=Y.boxQ);(clear ks0 ks1 ks2 ks3);(have ⟨ks0,ks1,ks2,ks3,ks4,ks5,ks6,ks7,ks8⟩:=S.boxQ);(have hz9:=S.lt))
           go_roundw
           case rel=>exact ⟨j+1,sx,by omega,by go_num,hnj2,by rw [←hy1.out,←hy2.out,←hy3.out,←hy4.out];exact aG.set4 S _ _ _ _,by rw [aQ,aQ,aQ,aQ];omega,Below.setCell (Below.setCell (Below.setCell (Below.setCell Bw hs7 _) hs7 _) hs7 _) hs7 _⟩
           case measure=>simp [intOf] <;> omega
       ·obtain rfl:N=j:=by omega
        have hs2:=Lib.hid (hnxt.out.trans hs.out)
        go_wp2
        go_roundw
        case rel=>exact ⟨i+1,s,by omega,by go_num,hs2,S,hz,Bw⟩
        case measure=>simp [intOf] <;> omega
     ·obtain rfl:N=i:=by omega
      have hss:M.spanOk s0.1 s0.2=true:=M.okS_comTo (n:=n) (m:=rows) _ s0 hs0.out
      have PX:=fun W=>gK (2048,2048) s0 W (by decide) hss
      have hcs:M.comV a b l n=M.mulS (some (2048,2048)) (some s0):=by rw [hV.out];unfold M.comS;rw [hlr.out,hs0.out]
      rw [←hcs] at PX
      rw [M.half_in.1,M.half_in.2.1,M.half_in.2.2.1,M.half_in.2.2.2] at PX
      clear hcs hss hs0
      obtain ⟨i1,hi1⟩:∃ x,x=M.in1 (M.comV a b l n):=⟨_,rfl⟩
      obtain ⟨i2,hi2⟩:∃ x,x=M.in2 (M.comV a b l n):=⟨_,rfl⟩
      obtain ⟨i3,hi3⟩:∃ x,x=M.in3 (M.comV a b l n):=⟨_,rfl⟩
      obtain ⟨i4,hi4⟩:∃ x,x=M.in4 (M.comV a b l n):=⟨_,rfl⟩
      obtain ⟨fV,hfV⟩:∃ x,x=(M.comV a b l n).isSome:=⟨_,rfl⟩
      rw [←hi1,←hi2,←hi3,←hi4,←hfV] at PX
      replace hi1:=Lib.hid hi1
      replace hi2:=Lib.hid hi2
      replace hi3:=Lib.hid hi3
      replace hi4:=Lib.hid hi4
      replace hfV:=Lib.hid hfV
      generalize M.in1 (some s0)=s1 at *
      generalize M.in2 (some s0)=s2 at *
      generalize M.in3 (some s0)=s3 at *
      generalize M.in4 (some s0)=s4 at *
      replace PX:=Lib.hid PX
      have R2:=R.keep Bw
      have B2:=B.trans (Bw.mono hs6)
      have Bh:=bA wr (.cells #[.int .i64 1,.int .i64 2] 36)
      have H:=aG.new wr #[.int .i64 1,.int .i64 2] 36
      replace S:=S.keep Bh
      replace R2:=R2.keep Bh
      replace B2:=B2.trans (Bh.mono B2.size)
      have ⟨h0_,h1_,_,_,_⟩:=H.box
      have ⟨ks0,ks1,ks2,ks3,_,_,_,_,_⟩:=S.boxQ
      clear Bh
      go_wp2_with (go_at_call 37;(with_reducible refine (PX.out _).mono ?_);rintro e w9 ⟨rfl,hb9⟩;(replace B2:=B2.trans (hb9.mono B2.size));(replace R2:=R2.keep hb9);(have ⟨r0,r1,r2,r3,z0,z1,z2,z3,rl⟩:=R2.boxQ))
      exact bodyPost_ret (v:=.tuple #[.agg #[.int .i64 i1,.int .i64 i2,.int .i64 i3,.int .i64 i4],.bool fV]) (by simp [results,Tryz.results13,go_sem, *]) rfl (⟨by rw [hi1.out,hi2.out,hi3.out,hi4.out,hfV.out],Below.setCell (Below.setCell (Below.setCell (Below.setCell B2 (by simp) _) (by simp) _) (by simp) _) (by simp) _⟩)
end
section
open Go.RowKit Go.Shelf
theorem kp (v:Value) (xs:List Int) (w:World) (hx:dZ w v xs) (hn:xs.length≤1048576) :
  Calls Tryz.prog 14 #[v] w fun e w'=>∃ v',e=.returned v'∧aF w' w.heap.size v' xs∧Below w.heap.size w w':=by
 obtain ⟨A,cap,rfl,hm,hv⟩:=hx
 have Hv:=Lib.hid hv
 clear hv
 obtain ⟨w1,hrun,hown1,hg1⟩:=es w xs.length (by omega)
 go_enter Tryz.func14,Tryz.ntmps14
 go_wp2
 have hb1:Below w.heap.size w w1:=ar hg1 (Nat.le_refl _) (fun k hk=>by cases hk)
 go_loopw [4] (fun vi wr=>∃ j:Nat,j≤xs.length∧vi=.int .i64 j∧aF wr w.heap.size (.slice (some ⟨w.heap.size,0,none⟩) xs.length xs.length) (xs.take j ++ List.replicate (xs.length - j) (0:Int))∧Below w.heap.size w wr) (fun vi _=>xs.length - (intOf vi).toNat)
 case atStart=>exact ⟨0,by omega,rfl,by simpa using hown1,hb1⟩
 case round=>
  obtain ⟨j,hj,rfl,hown,hbr⟩:=hrel
  have htl:(xs.take j).length=j:=by rw [List.length_take];omega
  have hlen:=fH htl hj
  by_cases hlt:j<xs.length
  ·obtain ⟨g,o,x,rfl,hg,hx,h0⟩:=Hv.out j hlt
   have e0:=(hbr.cell (p:=⟨g,o+j,none⟩) hg).trans h0
   have hj0:=et htl hlt
   have c0:=hown.cellAt hlen.symm hj0
   have f0:=cR hlen hown j
   have ht:xs.take (j+1)=xs.take j ++ [x]:=by rw [List.take_add_one,hx.out];rfl
   have hst:=Lib.hid (hown.set hlen.symm x ((congrArg (· ++ List.replicate (xs.length - (j+1)) (0:Int)) ht).trans (ev htl hlt x)))
   clear hlen hj0 h0 htl ht
   go_wp2
   go_roundw
   case rel=>exact ⟨j+1,by omega,by go_num,hst.out.1,(hbr.grown hst.out.2 hbr.size (fun q hq=>by cases hq;exact Nat.le_refl _))⟩
   case measure=>simp [intOf] <;> omega
  ·obtain rfl:j=xs.length:=by omega
   clear hlen
   go_wp2
   go_ret
   exact ⟨_,rfl,by simpa using hown,hbr⟩
theorem law_CombinedHeight (a b:Int) (_:M.I64 a) (_:M.I64 b) (v:Value) (xs:List Pt) (nv:Value) (ns:List Int) (w:World) (hx:bM w v xs) (hnx:dZ w nv ns) :
  Calls Tryz.prog 4 #[.agg #[.int .i64 a,.int .i64 b],v,nv] w fun e w'=>e=.returned (.bool true)∧Below w.heap.size w w':=by
 have e1:=fun v nv w h h2 hn=>dJ a b v nv xs ns w h h2 hn
 have e2:=fun v nv w h h2 hn=>dH a b v nv xs ns w h h2 hn
 generalize M.comV a b xs ns=rv at *
 generalize M.in1 rv=i1 at *
 generalize M.in2 rv=i2 at *
 generalize M.in3 rv=i3 at *
 generalize M.in4 rv=i4 at *
 generalize rv.isSome=f at *
 have EI:=fun w=>gI i1 i2 i3 i4 i1 i2 i3 i4 w
 rw [decide_eq_true rfl] at EI
 have EI:=Lib.hid EI
 have E1:=Lib.hid e1
 have E2:=Lib.hid e2
 clear e1 e2
 have TCu:=Lib.hid fun w=>ik a b w
 have hd2:decide (xs=xs)=true:=by simp
 have EQ:=fun v u w h1 h2 hx hy p q=>ir v u xs xs w h1 h2 hx hy p q
 rw [hd2] at EQ
 have EQ:=Lib.hid EQ
 clear hd2
 have hd3:decide (ns=ns)=true:=by simp
 have EN:=fun v u w h1 h2 hx hy=>kZ v u ns ns w h1 h2 hx hy
 rw [hd3] at EN
 have EN:=Lib.hid EN
 clear hd3
 have Hx:=Lib.hid hx
 have Hn:=Lib.hid hnx
 have B:=(Below.refl w.heap.size w).alloc (Nat.le_refl _) (.cells #[.int .i64 a,.int .i64 b] 23)
 have C:=aG.new w #[.int .i64 a,.int .i64 b] 23
 replace Hx:=Lib.hid (Hx.out.keep B)
 replace Hn:=Lib.hid (Hn.out.keep B)
 generalize hw3:w.alloc (.cells #[.int .i64 a,.int .i64 b] 23)=wc at *
 have k0:=C.box.c0
 have k1:=C.box.c1
 obtain ⟨A2,cap2,rfl,-,-⟩:=hnx
 by_cases hnn:ns.length≤1048576
 ·have hLn:((ns.length:Nat):Int)≤1048576:=by omega
  by_cases hn:xs.length≤1048576
  ·have hL:0≤(1048576:Int) - xs.length:=by omega
   obtain ⟨A,cap,rfl,-,-⟩:=hx
   have TC:=fun w (h:bM w (.slice A xs.length cap) xs)=>iO (.slice A xs.length cap) xs w h hn
   have TC:=Lib.hid TC
   have TN:=fun w (h:dZ w (.slice A2 ns.length cap2) ns)=>kp (.slice A2 ns.length cap2) ns w h hnn
   have TN:=Lib.hid TN
   have HS:=fun w (h:bM w (.slice A xs.length cap) xs)=>fC (.slice A xs.length cap) xs w h
   simp only [if_pos hn] at HS
   have HS:=Lib.hid HS
   have hn4:xs.length≤4000000:=by omega
   generalize xs.length=L at *
   generalize ns.length=L2 at *
   generalize hM:(1048576:Int) - L=M0 at *
   go_enter Tryz.func4,Tryz.ntmps4
   go_wp2_with fail
   refine (HS.out _ Hx.out).mono ?_;rintro e w0 ⟨rfl,rfl⟩
   go_wp2_with fail
   refine (TCu.out _).mono ?_;rintro e w1 ⟨rfl,b1⟩
   replace B:=B.trans (b1.mono B.size)
   replace C:=C.keep b1
   have k0:=C.box.c0
   have k1:=C.box.c1
   replace Hx:=Lib.hid (Hx.out.keep b1)
   replace Hn:=Lib.hid (Hn.out.keep b1)
   go_wp2_with fail
   refine (TC.out _ Hx.out).mono ?_;rintro e w2 ⟨v2,rfl,o2,b2⟩
   replace B:=B.trans (b2.mono B.size)
   replace C:=C.keep b2
   have k0:=C.box.c0
   have k1:=C.box.c1
   replace Hx:=Lib.hid (Hx.out.keep b2)
   replace Hn:=Lib.hid (Hn.out.keep b2)
   go_wp2_with fail
   refine (TN.out _ Hn.out).mono ?_;rintro e wn ⟨n2,rfl,p2,bn⟩
   replace B:=B.trans (bn.mono B.size)
   replace C:=C.keep bn
   have k0:=C.box.c0
   have k1:=C.box.c1
   replace Hx:=Lib.hid (Hx.out.keep bn)
   replace Hn:=Lib.hid (Hn.out.keep bn)
   replace o2:=o2.below bn
   go_wp2_with fail
   refine (E1.out _ _ _ o2.seen.pts p2.seen hn4).mono ?_;rintro e w3 ⟨rfl,b3⟩
   replace B:=B.trans (b3.mono B.size)
   replace C:=C.keep b3
   have k0:=C.box.c0
   have k1:=C.box.c1
   replace Hx:=Lib.hid (Hx.out.keep b3)
   replace Hn:=Lib.hid (Hn.out.keep b3)
   replace o2:=o2.below b3
   clear o2
   clear p2
   have Bx:=(Below.refl w3.heap.size w3).alloc (Nat.le_refl _) (.cells #[.int .i64 i1,.int .i64 i2,.int .i64 i3,.int .i64 i4] 38)
   have V:=aG.new w3 #[.int .i64 i1,.int .i64 i2,.int .i64 i3,.int .i64 i4] 38
   replace B:=B.trans (Bx.mono B.size)
   replace C:=C.keep Bx
   have k0:=C.box.c0
   have k1:=C.box.c1
   replace Hx:=Lib.hid (Hx.out.keep Bx)
   replace Hn:=Lib.hid (Hn.out.keep Bx)
   clear Bx
   have ⟨v_0,v_1,v_2,v_3,_,_,_,_,_⟩:=V.boxQ
   go_wp2_with fail
   refine (TC.out _ Hx.out).mono ?_;rintro e w4 ⟨v4,rfl,o4,b4⟩
   replace B:=B.trans (b4.mono B.size)
   replace C:=C.keep b4
   have k0:=C.box.c0
   have k1:=C.box.c1
   replace Hx:=Lib.hid (Hx.out.keep b4)
   replace Hn:=Lib.hid (Hn.out.keep b4)
   replace V:=V.keep b4
   have ⟨v_0,v_1,v_2,v_3,_,_,_,_,_⟩:=V.boxQ
   go_wp2_with fail
   refine (TN.out _ Hn.out).mono ?_;rintro e wm ⟨n4,rfl,p4,bm⟩
   replace B:=B.trans (bm.mono B.size)
   replace C:=C.keep bm
   have k0:=C.box.c0
   have k1:=C.box.c1
   replace Hx:=Lib.hid (Hx.out.keep bm)
   replace Hn:=Lib.hid (Hn.out.keep bm)
   replace V:=V.keep bm
   have ⟨v_0,v_1,v_2,v_3,_,_,_,_,_⟩:=V.boxQ
   replace o4:=o4.below bm
   go_wp2_with fail
   refine (TCu.out _).mono ?_;rintro e w5 ⟨rfl,b5⟩
   replace B:=B.trans (b5.mono B.size)
   replace C:=C.keep b5
   have k0:=C.box.c0
   have k1:=C.box.c1
   replace Hx:=Lib.hid (Hx.out.keep b5)
   replace Hn:=Lib.hid (Hn.out.keep b5)
   replace V:=V.keep b5
   have ⟨v_0,v_1,v_2,v_3,_,_,_,_,_⟩:=V.boxQ
   replace o4:=o4.below b5
   replace p4:=p4.below b5
   go_wp2_with fail
   refine (E2.out _ _ _ o4.seen.pts p4.seen hn4).mono ?_;rintro e w6 ⟨rfl,b6⟩
   replace B:=B.trans (b6.mono B.size)
   replace C:=C.keep b6
   have k0:=C.box.c0
   have k1:=C.box.c1
   replace Hx:=Lib.hid (Hx.out.keep b6)
   replace Hn:=Lib.hid (Hn.out.keep b6)
   replace V:=V.keep b6
   have ⟨v_0,v_1,v_2,v_3,_,_,_,_,_⟩:=V.boxQ
   replace o4:=o4.below b6
   replace p4:=p4.below b6
   have Bx:=(Below.refl w6.heap.size w6).alloc (Nat.le_refl _) (.cells #[.int .i64 i1,.int .i64 i2,.int .i64 i3,.int .i64 i4] 38)
   have U:=aG.new w6 #[.int .i64 i1,.int .i64 i2,.int .i64 i3,.int .i64 i4] 38
   replace B:=B.trans (Bx.mono B.size)
   replace C:=C.keep Bx
   have k0:=C.box.c0
   have k1:=C.box.c1
   replace Hx:=Lib.hid (Hx.out.keep Bx)
   replace Hn:=Lib.hid (Hn.out.keep Bx)
   replace V:=V.keep Bx
   have ⟨v_0,v_1,v_2,v_3,_,_,_,_,_⟩:=V.boxQ
   replace o4:=o4.below Bx
   replace p4:=p4.below Bx
   clear Bx
   have ⟨u_0,u_1,u_2,u_3,_,_,_,_,_⟩:=U.boxQ
   go_wp2_with fail
   refine (EI.out _).mono ?_;rintro e w7 ⟨rfl,b7⟩
   replace B:=B.trans (b7.mono B.size)
   replace C:=C.keep b7
   have k0:=C.box.c0
   have k1:=C.box.c1
   replace Hx:=Lib.hid (Hx.out.keep b7)
   replace Hn:=Lib.hid (Hn.out.keep b7)
   replace V:=V.keep b7
   have ⟨v_0,v_1,v_2,v_3,_,_,_,_,_⟩:=V.boxQ
   replace U:=U.keep b7
   have ⟨u_0,u_1,u_2,u_3,_,_,_,_,_⟩:=U.boxQ
   replace o4:=o4.below b7
   replace p4:=p4.below b7
   go_wp2_with fail
   refine (TC.out _ Hx.out).mono ?_;rintro e w8 ⟨v8,rfl,o8,b8⟩
   replace B:=B.trans (b8.mono B.size)
   replace C:=C.keep b8
   have k0:=C.box.c0
   have k1:=C.box.c1
   replace Hx:=Lib.hid (Hx.out.keep b8)
   replace Hn:=Lib.hid (Hn.out.keep b8)
   replace V:=V.keep b8
   have ⟨v_0,v_1,v_2,v_3,_,_,_,_,_⟩:=V.boxQ
   replace U:=U.keep b8
   have ⟨u_0,u_1,u_2,u_3,_,_,_,_,_⟩:=U.boxQ
   replace o4:=o4.below b8
   replace p4:=p4.below b8
   go_wp2_with fail
   refine (EQ.out _ _ _ _ _ o4.seen o8.seen (Nat.le_refl _) (Nat.le_refl _)).mono ?_;rintro e w9 ⟨rfl,b9⟩
   replace B:=B.trans (b9.mono B.size)
   replace C:=C.keep b9
   have k0:=C.box.c0
   have k1:=C.box.c1
   replace Hx:=Lib.hid (Hx.out.keep b9)
   replace Hn:=Lib.hid (Hn.out.keep b9)
   replace V:=V.keep b9
   have ⟨v_0,v_1,v_2,v_3,_,_,_,_,_⟩:=V.boxQ
   replace U:=U.keep b9
   have ⟨u_0,u_1,u_2,u_3,_,_,_,_,_⟩:=U.boxQ
   replace o4:=o4.below b9
   replace p4:=p4.below b9
   go_wp2_with fail
   refine (TN.out _ Hn.out).mono ?_;rintro e wp ⟨n8,rfl,p8,bp⟩
   replace B:=B.trans (bp.mono B.size)
   replace C:=C.keep bp
   have k0:=C.box.c0
   have k1:=C.box.c1
   replace Hx:=Lib.hid (Hx.out.keep bp)
   replace Hn:=Lib.hid (Hn.out.keep bp)
   replace V:=V.keep bp
   have ⟨v_0,v_1,v_2,v_3,_,_,_,_,_⟩:=V.boxQ
   replace U:=U.keep bp
   have ⟨u_0,u_1,u_2,u_3,_,_,_,_,_⟩:=U.boxQ
   replace o4:=o4.below bp
   replace p4:=p4.below bp
   go_wp2_with fail
   refine (EN.out _ _ _ _ _ p4.seen p8.seen).mono ?_;rintro e wq ⟨rfl,bq⟩
   replace B:=B.trans (bq.mono B.size)
   replace C:=C.keep bq
   have k0:=C.box.c0
   have k1:=C.box.c1
   replace Hx:=Lib.hid (Hx.out.keep bq)
   replace Hn:=Lib.hid (Hn.out.keep bq)
   replace V:=V.keep bq
   have ⟨v_0,v_1,v_2,v_3,_,_,_,_,_⟩:=V.boxQ
   replace U:=U.keep bq
   have ⟨u_0,u_1,u_2,u_3,_,_,_,_,_⟩:=U.boxQ
   replace o4:=o4.below bq
   replace p4:=p4.below bq
   go_wp2_with fail
   go_ret
   exact ⟨rfl,B⟩
  ·obtain ⟨A,cap,rfl,-,-⟩:=hx
   have HS:=fun w (h:bM w (.slice A xs.length cap) xs)=>fC (.slice A xs.length cap) xs w h
   simp only [if_neg hn] at HS
   have HS:=Lib.hid HS
   generalize xs.length=L at *
   generalize ns.length=L2 at *
   go_enter Tryz.func4,Tryz.ntmps4
   go_wp2_with fail
   refine (HS.out _ Hx.out).mono ?_;rintro e w0 ⟨rfl,rfl⟩
   go_wp2
   go_ret
   exact ⟨rfl,B⟩
 ·have hLn:(1048576:Int)<((ns.length:Nat):Int):=by omega
  generalize ns.length=L2 at *
  go_enter Tryz.func4,Tryz.ntmps4
  go_wp2
  go_ret
  exact ⟨rfl,B⟩
end
end Go.Proofs.YthfjndmdalfloaaGreat
