/-
  Joined texts: contracts and plain lemmas.
-/
import Derived.Test.YtkalaljcbmkbmaaGreatB1
import Derived.Test.YtkalaljcbmkbmaaGreatB16
import Derived.Test.YtkalaljcbmkbmaaGreatB15
import Derived.Test.YtkalaljcbmkbmaaGreatB14
set_option linter.unusedSimpArgs false
set_option linter.unusedVariables false
set_option maxRecDepth 100000
set_option maxHeartbeats 8000000
namespace Go.Proofs.YtkalaljcbmkbmaaGreat
section
open Go.RowKit Go.Shelf
namespace M
noncomputable def j6 (a b:Int) (l:List Pt) (n d:Int):Bool:=gN a b l n d && (cF a b l).isSome
noncomputable def GS (a b:Int) (l:List Pt) (n d:Int):Bool:=j6 a b l n d && decide (DQ (cF a b l)*d≥n*4096)
theorem AV {a b:Int} {l:List Pt} {n d:Int} (h:gN a b l n d=false):j6 a b l n d=false/\GS a b l n d=false:=by
 have h1:j6 a b l n d=false:=by unfold j6;rw [h];rfl
 exact ⟨h1,by unfold GS;rw [h1];rfl⟩
theorem vS {a b:Int} {l:List Pt} {n d:Int} (h:gN a b l n d=true):j6 a b l n d=(cF a b l).isSome/\GS a b l n d=((cF a b l).isSome && decide (DQ (cF a b l)*d≥n*4096)):=by
 have h1:j6 a b l n d=(cF a b l).isSome:=by unfold j6;rw [h];rfl
 exact ⟨h1,by unfold GS;rw [h1]⟩
theorem AU {x n d:Int} (h1:-409600000<=x) (h2:x<=409600000) (hf:eO n d=true):-4000000000000000000<=x*d/\x*d<=4000000000000000000/\-4000000000000000000<=n*4096/\n*4096<=4000000000000000000/\-4000000000000000000<=pn x*d/\pn x*d<=4000000000000000000/\-4000000000000000000<=n*pd x/\n*pd x<=4000000000000000000/\decide (pn x*d<n*pd x)=!decide (x*d≥n*4096):=by
 obtain ⟨g1,g2,g3,g4,g5,g6,g7,g8,g9⟩:=rI (bC h1 h2);have hb:=nk hf;generalize pd x=q,pn x=p at *;have m1:=aH (x:=x) (y:=d) (m:=409600000) (n:=1000000000) h1 h2 (by omega) (by omega);have m2:=aH (x:=p) (y:=d) (m:=1000000000) (n:=1000000000) g8 g9 (by omega) (by omega);have m3:=aH (x:=n) (y:=q) (m:=1000000000) (n:=4096) hb.1 hb.2.1 (by omega) (by omega);refine ⟨by omega,by omega,by omega,by omega,by omega,by omega,by omega,by omega,?_⟩;rw [←decide_not]
 congr 1
 have h4:(4096:Int) / q*q=4096:=Int.ediv_mul_cancel (Int.dvd_of_emod_eq_zero g4);generalize (4096:Int) / q=k at *
 have e1:x*d=p*d*k:=by rw [←g5];grind
 have e2:n*4096=n*q*k:=by rw [←h4];grind
 rw [e1,e2]
 apply propext
 constructor
 ·intro h h'
  have:=Int.mul_lt_mul_of_pos_right h (show 0<k by omega);omega
 intro h
 rcases Int.lt_or_le (p*d) (n*q) with h5 | h5
 ·exact h5
 exact absurd (Int.mul_le_mul_of_nonneg_right h5 (show 0<=k by omega)) h
end M
theorem pv (a b c d:Int) (w:World) (h1:-4000000000000000000<=a*d) (h2:a*d<=4000000000000000000) (h3:-4000000000000000000<=c*b) (h4:c*b<=4000000000000000000) :
  Calls Tryz.prog 58 #[.agg #[a,b],.agg #[c,d]] w fun e w'=>e=.returned (.bool (decide (a*d<c*b)))/\Below w.heap.size w w':=by
 by_cases h:a*d<c*b
 ·have hd:decide (a*d<c*b)=true:=decide_eq_true h
  rw [hd];go_enter Tryz.func58,Tryz.ntmps58
  go_wp2;go_ret;exact ⟨by first | rfl | simp [hd],(by repeat (first | exact DE _ _ | refine aQ ?_ _ | refine aR ?_ (by assumption) | refine Below.drew ?_ | refine DD ?_ (by first | exact DF _ | exact Nat.le_add_right _ _ | (simp <;> omega)) _ | refine aN ?_ _))⟩
 have hd:decide (a*d<c*b)=false:=decide_eq_false h;rw [hd];go_enter Tryz.func58,Tryz.ntmps58
 go_wp2;go_ret;exact ⟨by first | rfl | simp [hd],(by repeat (first | exact DE _ _ | refine aQ ?_ _ | refine aR ?_ (by assumption) | refine Below.drew ?_ | refine DD ?_ (by first | exact DF _ | exact Nat.le_add_right _ _ | (simp <;> omega)) _ | refine aN ?_ _))⟩
theorem gC (a b n d:Int) (v:Value) (l:List Pt) (w:World) (hx:eA w v l) (hn:l.length<=4000000) :
  Calls Tryz.prog 21 #[.agg #[a,b,v,n,d]] w fun e w'=>e=.returned (.tuple #[M.GS a b l n d,M.j6 a b l n d])/\Below w.heap.size w w':=by
 obtain ⟨sa,cap,rfl⟩:=Ln hx;obtain ⟨wc,hw3,C,B⟩:=dD w #[a,b,.slice sa l.length cap,n,d] 51
 have CI:=fun W (C:aG W w.heap.size 51 #[a,b,.slice sa l.length cap,n,d]) h=>j9 a b n d (.slice sa l.length cap) l w.heap.size W C h hn
 have hxc:=DB (hx.below B);have ⟨c0,c1,c2,c3,c4⟩:=C.cg;clear hx
 cases hc:M.gN a b l n d with
 | false=>
  obtain ⟨k1,k2⟩:=M.AV hc;rw [hc] at CI;rw [k1,k2];replace CI:=DB CI;clear hc k1 k2;go_enter Tryz.func21,Tryz.ntmps21
  go_wp2_with (go_at_call 56;(refine (CI.out _ C hxc.out).mono ?_);rintro e w4 ⟨rfl,hb4⟩;have D7:=hb4.size;replace B:=d_ B hb4;replace C:=C.keep hb4;have hxd:=DB (hxc.out.below hb4);(have ⟨c0,c1,c2,c3,c4⟩:=C.cg))
  go_ret2;exact ⟨rfl,B⟩
 | true=>
 obtain ⟨k1,k2⟩:=M.vS hc;rw [hc] at CI;obtain ⟨hpl,hfr,hpos⟩:=M.nZ hc;obtain ⟨hg,h1,FB,hpt⟩:=M.i9 hpl
 have RG:=fun W h=>qW a b (.slice sa l.length cap) l W h hg h1 FB hpt
 have hbd:(M.cF a b l).isSome=true->-409600000<=M.DQ (M.cF a b l)/\M.DQ (M.cF a b l)<=409600000/\M.De (M.cF a b l)=M.pn (M.DQ (M.cF a b l))/\M.Df (M.cF a b l)=M.pd (M.DQ (M.cF a b l)):=by
  have h3:=M.s9 (a:=a) (b:=b) (l:=l)
  cases hq:M.cF a b l with
  | none=>intro h;cases h
  | some q=>
  intro _;rw [hq] at h3;obtain ⟨h4,h5,h6⟩:=M.gY h3;exact ⟨h5,Int.le_trans h4 h6,rfl,rfl⟩
 rw [k1,k2];clear hg h1 FB hpt hpl hc k1 k2 hpos hn;generalize M.cF a b l=rs at *;generalize M.Di rs=x4,M.Dh rs=x3,M.Df rs=x2,M.De rs=x1,M.DZ rs=hh,M.DQ rs=lo,rs.isSome=fl at *;replace CI:=DB CI;replace RG:=DB RG
 cases fl with
 | false=>
  clear hbd hfr;go_enter Tryz.func21,Tryz.ntmps21
  go_wp2_with first | (go_at_call 56;(refine (CI.out _ C hxc.out).mono ?_);rintro e w4 ⟨rfl,hb4⟩;have D7:=hb4.size;replace B:=d_ B hb4;replace C:=C.keep hb4;have hxd:=DB (hxc.out.below hb4);(have ⟨c0,c1,c2,c3,c4⟩:=C.cg)) | (go_at_call 38;(refine (RG.out _ hxd.out).mono ?_);rintro e w5 ⟨rfl,hb5⟩;have Ba:=(DE w5.heap.size w5).alloc (DF _) (.cells #[lo,hh] 74);have S:=aG.new w5 #[lo,hh] 74;(have ⟨s0,s1,_,_,_⟩:=S.box);replace B:=(d_ B hb5).trans (Ba.mono (Nat.le_trans B.size hb5.size));replace C:=(C.keep hb5).keep Ba;(have ⟨c0,c1,c2,c3,c4⟩:=C.cg))
  go_ret2;exact ⟨rfl,B⟩
 | true=>
 obtain ⟨b1,b2,rfl,rfl⟩:=hbd rfl;obtain ⟨p1,p2,p3,p4,p5,p6,p7,p8,p9⟩:=M.AU b1 b2 hfr;clear hbd hfr
 by_cases hge:lo*d≥n*4096
 ·have hd:decide (lo*d≥n*4096)=true:=decide_eq_true hge
  rw [hd];clear p5 p6 p7 p8 p9;go_enter Tryz.func21,Tryz.ntmps21
  go_wp2_with first | (go_at_call 56;(refine (CI.out _ C hxc.out).mono ?_);rintro e w4 ⟨rfl,hb4⟩;have D7:=hb4.size;replace B:=d_ B hb4;replace C:=C.keep hb4;have hxd:=DB (hxc.out.below hb4);(have ⟨c0,c1,c2,c3,c4⟩:=C.cg)) | (go_at_call 38;(refine (RG.out _ hxd.out).mono ?_);rintro e w5 ⟨rfl,hb5⟩;have Ba:=(DE w5.heap.size w5).alloc (DF _) (.cells #[lo,hh] 74);have S:=aG.new w5 #[lo,hh] 74;(have ⟨s0,s1,_,_,_⟩:=S.box);replace B:=(d_ B hb5).trans (Ba.mono (Nat.le_trans B.size hb5.size));replace C:=(C.keep hb5).keep Ba;(have ⟨c0,c1,c2,c3,c4⟩:=C.cg))
  go_ret2;exact ⟨by first | rfl | simp [hd],B⟩
 have hd:decide (lo*d≥n*4096)=false:=decide_eq_false hge;rw [hd];clear p5 p6 p7 p8 p9;go_enter Tryz.func21,Tryz.ntmps21
 go_wp2_with first | (go_at_call 56;(refine (CI.out _ C hxc.out).mono ?_);rintro e w4 ⟨rfl,hb4⟩;have D7:=hb4.size;replace B:=d_ B hb4;replace C:=C.keep hb4;have hxd:=DB (hxc.out.below hb4);(have ⟨c0,c1,c2,c3,c4⟩:=C.cg)) | (go_at_call 38;(refine (RG.out _ hxd.out).mono ?_);rintro e w5 ⟨rfl,hb5⟩;have Ba:=(DE w5.heap.size w5).alloc (DF _) (.cells #[lo,hh] 74);have S:=aG.new w5 #[lo,hh] 74;(have ⟨s0,s1,_,_,_⟩:=S.box);replace B:=(d_ B hb5).trans (Ba.mono (Nat.le_trans B.size hb5.size));replace C:=(C.keep hb5).keep Ba;(have ⟨c0,c1,c2,c3,c4⟩:=C.cg))
 go_ret2;exact ⟨by first | rfl | simp [hd],B⟩
theorem gF (a b n d:Int) (v:Value) (l:List Pt) (w:World) (hx:eA w v l) (hn:l.length<=4000000) :
  Calls Tryz.prog 22 #[.agg #[a,b,v,n,d]] w fun e w'=>e=.returned (.tuple #[M.GS a b l n d,M.j6 a b l n d])/\Below w.heap.size w w':=by
 obtain ⟨sa,cap,rfl⟩:=Ln hx;obtain ⟨wc,hw3,C,B⟩:=dD w #[a,b,.slice sa l.length cap,n,d] 51
 have CI:=fun W h=>wY a b n d (.slice sa l.length cap) l W h hn
 have hxc:=DB (hx.below B);have ⟨c0,c1,c2,c3,c4⟩:=C.cg;clear hx
 cases hc:M.gN a b l n d with
 | false=>
  obtain ⟨k1,k2⟩:=M.AV hc;rw [hc] at CI;rw [k1,k2];replace CI:=DB CI;clear hc k1 k2;go_enter Tryz.func22,Tryz.ntmps22
  go_wp2_with (go_at_call 57;(refine (CI.out _ hxc.out).mono ?_);rintro e w4 ⟨rfl,hb4⟩;have D7:=hb4.size;replace B:=d_ B hb4;replace C:=C.keep hb4;have hxd:=DB (hxc.out.below hb4);(have ⟨c0,c1,c2,c3,c4⟩:=C.cg))
  go_ret2;exact ⟨rfl,B⟩
 | true=>
 obtain ⟨k1,k2⟩:=M.vS hc;rw [hc] at CI;obtain ⟨hpl,hfr,hpos⟩:=M.nZ hc;obtain ⟨hg,h1,FB,hpt⟩:=M.i9 hpl
 have RG:=fun W h=>l9 a b (.slice sa l.length cap) l W h hg h1 FB hpt
 have hbd:(M.cF a b l).isSome=true->-409600000<=M.DQ (M.cF a b l)/\M.DQ (M.cF a b l)<=409600000/\M.De (M.cF a b l)=M.pn (M.DQ (M.cF a b l))/\M.Df (M.cF a b l)=M.pd (M.DQ (M.cF a b l)):=by
  have h3:=M.s9 (a:=a) (b:=b) (l:=l)
  cases hq:M.cF a b l with
  | none=>intro h;cases h
  | some q=>
  intro _;rw [hq] at h3;obtain ⟨h4,h5,h6⟩:=M.gY h3;exact ⟨h5,Int.le_trans h4 h6,rfl,rfl⟩
 rw [k1,k2];clear hg h1 FB hpt hpl hc k1 k2 hpos hn;generalize M.cF a b l=rs at *;generalize M.Di rs=x4,M.Dh rs=x3,M.Df rs=x2,M.De rs=x1,M.DZ rs=hh,M.DQ rs=lo,rs.isSome=fl at *;replace CI:=DB CI;replace RG:=DB RG
 cases fl with
 | false=>
  clear hbd hfr;go_enter Tryz.func22,Tryz.ntmps22
  go_wp2_with first | (go_at_call 57;(refine (CI.out _ hxc.out).mono ?_);rintro e w4 ⟨rfl,hb4⟩;have D7:=hb4.size;replace B:=d_ B hb4;replace C:=C.keep hb4;have hxd:=DB (hxc.out.below hb4);(have ⟨c0,c1,c2,c3,c4⟩:=C.cg)) | (go_at_call 40;(refine (RG.out _ hxd.out).mono ?_);rintro e w5 ⟨rfl,hb5⟩;have Ba:=(DE w5.heap.size w5).alloc (DF _) (.cells #[x1,x2,x3,x4] 78);have S:=aG.new w5 #[x1,x2,x3,x4] 78;(have ⟨s0,s1,s2,s3,_,_,_,_,_⟩:=S.aL);replace B:=(d_ B hb5).trans (Ba.mono (Nat.le_trans B.size hb5.size));replace C:=(C.keep hb5).keep Ba;(have ⟨c0,c1,c2,c3,c4⟩:=C.cg))
  go_ret2;exact ⟨rfl,B⟩
 | true=>
 obtain ⟨b1,b2,rfl,rfl⟩:=hbd rfl;obtain ⟨p1,p2,p3,p4,p5,p6,p7,p8,p9⟩:=M.AU b1 b2 hfr;clear hbd hfr
 by_cases hge:lo*d≥n*4096
 ·have hd:decide (lo*d≥n*4096)=true:=decide_eq_true hge
  rw [hd]
  have LS:=fun W=>pv (M.pn lo) (M.pd lo) n d W p5 p6 p7 p8
  rw [p9,hd] at LS;generalize M.pd lo=y2,M.pn lo=y1 at *;replace LS:=DB LS;clear p1 p2 p3 p4 p5 p6 p7 p8 p9;go_enter Tryz.func22,Tryz.ntmps22
  go_wp2_with first | (go_at_call 57;(refine (CI.out _ hxc.out).mono ?_);rintro e w4 ⟨rfl,hb4⟩;have D7:=hb4.size;replace B:=d_ B hb4;replace C:=C.keep hb4;have hxd:=DB (hxc.out.below hb4);(have ⟨c0,c1,c2,c3,c4⟩:=C.cg)) | (go_at_call 40;(refine (RG.out _ hxd.out).mono ?_);rintro e w5 ⟨rfl,hb5⟩;have Ba:=(DE w5.heap.size w5).alloc (DF _) (.cells #[y1,y2,x3,x4] 78);have S:=aG.new w5 #[y1,y2,x3,x4] 78;(have ⟨s0,s1,s2,s3,_,_,_,_,_⟩:=S.aL);replace B:=(d_ B hb5).trans (Ba.mono (Nat.le_trans B.size hb5.size));replace C:=(C.keep hb5).keep Ba;(have ⟨c0,c1,c2,c3,c4⟩:=C.cg)) | (go_at_call 58;(refine (LS.out _).mono ?_);rintro e w6 ⟨rfl,hb6⟩;replace B:=d_ B hb6)
  go_ret2;exact ⟨by first | rfl | simp [hd],B⟩
 have hd:decide (lo*d≥n*4096)=false:=decide_eq_false hge;rw [hd]
 have LS:=fun W=>pv (M.pn lo) (M.pd lo) n d W p5 p6 p7 p8
 rw [p9,hd] at LS;generalize M.pd lo=y2,M.pn lo=y1 at *;replace LS:=DB LS;clear p1 p2 p3 p4 p5 p6 p7 p8 p9;go_enter Tryz.func22,Tryz.ntmps22
 go_wp2_with first | (go_at_call 57;(refine (CI.out _ hxc.out).mono ?_);rintro e w4 ⟨rfl,hb4⟩;have D7:=hb4.size;replace B:=d_ B hb4;replace C:=C.keep hb4;have hxd:=DB (hxc.out.below hb4);(have ⟨c0,c1,c2,c3,c4⟩:=C.cg)) | (go_at_call 40;(refine (RG.out _ hxd.out).mono ?_);rintro e w5 ⟨rfl,hb5⟩;have Ba:=(DE w5.heap.size w5).alloc (DF _) (.cells #[y1,y2,x3,x4] 78);have S:=aG.new w5 #[y1,y2,x3,x4] 78;(have ⟨s0,s1,s2,s3,_,_,_,_,_⟩:=S.aL);replace B:=(d_ B hb5).trans (Ba.mono (Nat.le_trans B.size hb5.size));replace C:=(C.keep hb5).keep Ba;(have ⟨c0,c1,c2,c3,c4⟩:=C.cg)) | (go_at_call 58;(refine (LS.out _).mono ?_);rintro e w6 ⟨rfl,hb6⟩;replace B:=d_ B hb6)
 go_ret2;exact ⟨by first | rfl | simp [hd],B⟩
end
section
namespace M
open i_
theorem AD {a b X Y E n:Int} {q:Dy} (hg:good a b=true) (hp:aY a b X Y E=true) (h:rq a X Y E n=some q):aY a b q.1 q.2.1 q.2.2=true/\cW q.1 q.2.1 q.2.2=qs a n (cW X Y E):=by
 unfold rq J5 at h;unfold qs
 split at h
 ·rename_i hn
  have hm:=lV hp;rw [if_pos hn,←xW];exact ⟨gq hg hm _ q h,kT hg hm _ q h⟩
 rename_i hn
 rw [if_neg hn];exact ⟨gq hg hp _ q h,kT hg hp _ q h⟩
theorem sQ {a b:Int} {l:List Pt} {n:List Int} (hg:good a b=true):∀ j s,eK a b l n j=some s->aY a b s.1 s.2.1 s.2.2=true/\cW s.1 s.2.1 s.2.2=IR a (PL l) (fun i=>n.getD i 0) j
 | 0,s,h=>by
  cases h
  exact ⟨iE a b,oc 0 0⟩
 | j+1,s,h=>by
  unfold eK A7 at h;obtain ⟨s0,h0,h⟩:=Option.bind_eq_some_iff.1 h;obtain ⟨p,hp,h⟩:=Option.bind_eq_some_iff.1 h;obtain ⟨k,hk,h⟩:=Option.bind_eq_some_iff.1 h;obtain ⟨q,hq,h⟩:=Option.bind_eq_some_iff.1 h;obtain ⟨i1,i2⟩:=sQ hg j s0 h0;unfold Fo at hq
  split at hq
  ·rename_i hc
   rw [Bool.and_eq_true] at hc;obtain ⟨-,hpo⟩:=lL hc.1;obtain ⟨q1,q2⟩:=AD hg hpo hq
   by_cases ha:cX a s0.1 s0.2.1 s0.2.2 q.1 q.2.1 q.2.2=true
   ·rw [if_pos ha] at h
    obtain rfl:=Option.some.inj h;refine ⟨jL (aj hg) i1 q1,?_⟩
    have e:n.getD j 0=k:=by rw [List.getD_eq_getElem?_getD,hk];rfl
    show _=i_.add a (IR a (PL l) (fun i=>n.getD i 0) j) (qs a (n.getD j 0) (PL l j))
    rw [e,sJ hp,←q2,←i2];exact nI hg i1 q1 ha
   rw [if_neg ha] at h;cases h
  cases hq
theorem Cn {n:List Int} (h:nz n=true):∃ j,j<n.length/\n.getD j 0≠0:=by
 obtain ⟨x,hx,h0⟩:=List.any_eq_true.1 h;obtain ⟨j,hj⟩:=List.getElem?_of_mem hx;refine ⟨j,(List.getElem?_eq_some_iff.1 hj).1,?_⟩;rw [List.getD_eq_getElem?_getD,hj];intro e;have e:x=0:=e;rw [e] at h0;exact absurd h0 (by decide)
theorem Br {a b:Int} {l:List Pt} {n:List Int} {p:Int × Int} (e:cF a b l=some p) (h:Hj a b l n=true):p.1<=0:=by
 unfold Hj rC at h
 split at h
 ·rename_i hc
  rw [Bool.and_eq_true] at hc;have hl:=hc.1;have hf:=hc.2;unfold fits at hf;rw [Bool.and_eq_true,beq_iff_eq] at hf;obtain ⟨hg,-,-,hall⟩:=fh hl
  cases hs:eK a b l n l.length with
  | none=>rw [hs] at h;cases h
  | some s=>
  rw [hs] at h;have h:(nz n && dh a s)=true:=h;rw [Bool.and_eq_true] at h;obtain ⟨s1,s2⟩:=sQ hg _ s hs;obtain ⟨m,m1,-,hm⟩:=oV hg s1 h.2;obtain ⟨j,hj,hv⟩:=Cn h.1;rw [s2] at hm;exact zk hl e (v:=fun i=>n.getD i 0) (j:=j) (by omega) hv (by omega) hm
 cases h
theorem vR {a b:Int} {l:List Pt} {n d:Int} (h:GS a b l n d=true):bc a b l=true/\∃ p,cF a b l=some p/\0<p.1:=by
 unfold GS j6 at h;rw [Bool.and_eq_true,Bool.and_eq_true,decide_eq_true_eq] at h;obtain ⟨⟨h1,h4⟩,h5⟩:=h;obtain ⟨h1,h2,h3⟩:=nZ h1;refine ⟨h1,?_⟩
 cases e:cF a b l with
 | none=>rw [e] at h4;cases h4
 | some p=>
 refine ⟨p,rfl,?_⟩;rw [e] at h5;have h5:p.1*d≥n*4096:=h5;have hd:=nk h2
 rcases Int.lt_or_le 0 p.1 with q | q
 ·exact q
 have:=Int.mul_le_mul_of_nonneg_right q (show 0<=d by omega);omega
theorem CW {a b:Int} {l:List Pt} {n d:Int} {m:List Int} (h:GS a b l n d=true):Hj a b l m=false:=by
 obtain ⟨-,p,e,hp⟩:=vR h
 cases q:Hj a b l m with
 | false=>rfl
 | true=>
 have:=Br e q;omega
theorem A6 {a b:Int} {l:List Pt} {n d:Int} (h:GS a b l n d=true) {P:Pt} (hP:P ∈ l):iW a b P.1 P.2.1 P.2.2=true/\fJ a P.1 P.2.1 P.2.2=none:=by
 obtain ⟨h1,p,e,hp⟩:=vR h;obtain ⟨hg,-,-,hall⟩:=fh h1;refine ⟨by unfold iW;rw [hg,hall P hP];rfl,?_⟩
 cases q:fJ a P.1 P.2.1 P.2.2 with
 | none=>rfl
 | some k=>
 have:=zl h1 e hP (by rw [q];rfl);omega
end M
end
section
open Go.RowKit
namespace M
theorem sd {n:List Int} {k:Nat} (h:fits n k=true):n.length=k/\∀ x ∈ n,-12<=x/\x<=12:=by
 unfold fits at h;rw [Bool.and_eq_true,beq_iff_eq] at h;refine ⟨by omega,fun x hx=>?_⟩;have:=List.all_eq_true.1 h.2 x hx;unfold ins at this;simp only [Bool.and_eq_true,decide_eq_true_eq] at this;exact this
theorem yj {n:List Int} {k i:Nat} (h:fits n k=true) (hi:i<k):n[i]?=some (n.getD i 0)/\-12<=n.getD i 0/\n.getD i 0<=12:=by
 obtain ⟨h1,h2⟩:=sd h;have e:n[i]?=some (n[i]'(by omega)):=List.getElem?_eq_getElem (by omega)
 have e2:n.getD i 0=n[i]'(by omega):=by rw [List.getD_eq_getElem?_getD,e];rfl
 rw [e2];exact ⟨e,h2 _ (List.getElem_mem _)⟩
end M
theorem M.Ck (a b X Y E n:Int):M.aY a b (M.pX (M.Fo a b X Y E n)) (M.pY (M.Fo a b X Y E n)) (M.pE (M.Fo a b X Y E n))=true:=by
 cases h:M.Fo a b X Y E n with
 | none=>exact M.iE a b
 | some q=>exact M.xJ h
theorem M.tr {a b:Int} {l:List Pt} {n:List Int} {j:Nat} {s:M.Dy} {p:Pt} {k:Int} {r:Option M.Dy} (hs:M.eK a b l n j=some s) (hp:l[j]?=some p) (hk:n[j]?=some k) (hr:M.Fo a b p.1 p.2.1 p.2.2 k=r) :
  M.eK a b l n (j+1)=if (r.isSome && M.cX a s.1 s.2.1 s.2.2 (M.pX r) (M.pY r) (M.pE r))=true then some (M.dV a s.1 s.2.1 s.2.2 (M.pX r) (M.pY r) (M.pE r),M.fH a s.1 s.2.1 s.2.2 (M.pX r) (M.pY r) (M.pE r),M.dU a s.1 s.2.1 s.2.2 (M.pX r) (M.pY r) (M.pE r)) else none:=by
 rw [M.tp hs hp hk,hr]
 cases r with
 | none=>rfl
 | some q=>rfl
theorem tt (a b:Int) (v nv:Value) (l:List Pt) (n:List Int) (w:World) (hx:eA w v l) (hnx:cS w nv n) (hp:M.bc a b l=true) (hf:M.fits n l.length=true) :
  Calls Tryz.prog 31 #[.agg #[a,b],v,nv] w fun e w'=>e=.returned (.tuple #[.agg #[M.pX (M.eK a b l n l.length),M.pY (M.eK a b l n l.length),M.pE (M.eK a b l n l.length)],.bool (M.eK a b l n l.length).isSome])/\Below w.heap.size w w':=by
 obtain ⟨hg,hl1,hl4,hall⟩:=M.i9 hp;have hfl:=(M.sd hf).1
 obtain ⟨res,hres⟩:∃ r,M.eK a b l n l.length=r:=⟨_,rfl⟩
 rw [hres]
 have hno:=DB fun j h hj=>hres.symm.trans (M.mN (j:=j) h l.length hj)
 have Py:=DB fun j s h=>M.nW (l:=l) (n:=n) hg j s h
 have PA:=DB fun (s q:M.Dy) W h1 h2=>fM a b s.1 s.2.1 s.2.2 q.1 q.2.1 q.2.2 W hg h1 h2
 have PM:=DB fun X Y E k W=>iG a b X Y E k W
 have hf:=DB hf;have hall:=DB hall;obtain ⟨pa,Ga,rfl,hpv⟩:=hx;obtain ⟨na,Ea,rfl,hnl,hnc⟩:=hnx;have hnx:=DB (show cS w (.slice na n.length Ea) n from ⟨na,Ea,rfl,hnl,hnc⟩);obtain ⟨g,o_,rfl,JS⟩:=hpv.resolve_left (fun h=>by rw [h] at hl1;simp at hl1)
 obtain ⟨N,hN⟩:∃ N,N=l.length:=⟨_,rfl⟩
 rw [hfl] at hnx hnl ⊢;rw [←hN] at hnx hnl hno hres hf hl1 hl4 ⊢;replace hN:=DB hN;replace hres:=DB hres;have JS:=DB JS;clear hfl hnc hp hg hpv;obtain ⟨wc,hw3,C,R,B⟩:=fR w #[a,b] 25 #[(0:Int),(0:Int),(0:Int)] 40;have S:=aG.new wc #[(0:Int),(0:Int),(0:Int)] 40;have b_:=bA wc (.cells #[(0:Int),(0:Int),(0:Int)] 40);have hS:w.heap.size+1<wc.heap.size:=R.lt;go_enter Tryz.func31,Tryz.ntmps31
 go_wp2
 go_loopw [18] (fun vi wq=>∃ (i:Nat) (s:M.Dy),i<=N/\vi=.int .i64 (i:Int)/\Hid (M.eK a b l n i=some s)/\aG wq w.heap.size 25 #[a,b]/\aG wq (w.heap.size+1) 40 #[(0:Int),(0:Int),(0:Int)]/\aG wq wc.heap.size 40 #[s.1,s.2.1,s.2.2]/\Below w.heap.size w wq) (fun vi _=>N - (intOf vi).toNat)
 case atStart=>exact ⟨0,(0,0,0),Nat.zero_le _,rfl,DB rfl,C.keep b_,R.keep b_,S,d_ B b_⟩
 case round=>
 clear C R S B b_ hw3;obtain ⟨i,⟨X,Y,E⟩,hi,rfl,hs,C,R,S,B⟩:=hrel;have hsz:=B.size;have hSl:=S.lt
 by_cases hlt:i<N
 ·obtain ⟨⟨x1,x2,x3⟩,hq⟩:∃ p,l[i]?=some p:=⟨_,List.getElem?_eq_getElem (by have:=hN.out;omega)⟩
  obtain ⟨ni,-,-⟩:=M.yj hf.out hlt;obtain ⟨gn,RI,hgn,ci⟩:=(hnx.out.keep B).at ni;have ⟨p0,p1,p2⟩:=JS.out i _ hq
  dsimp only at p0 p1 p2
  replace p0:=aE B p0;replace p1:=aE B p1;replace p2:=aE B p2
  obtain ⟨r,hr⟩:∃ r,M.Fo a b x1 x2 x3 (n.getD i 0)=r:=⟨_,rfl⟩
  have hst:=M.tr hs.out hq ni hr;have hp1:=M.Ck a b x1 x2 x3 (n.getD i 0)
  replace PM:=fun W=>PM.out x1 x2 x3 (n.getD i 0) W
  rw [hr] at hp1 PM
  replace PA:=fun W=>PA.out (X,Y,E) (M.pX r,M.pY r,M.pE r) W (Py.out i _ hs.out) hp1
  replace hno:=DB fun h=>hno.out (i+1) h hlt
  dsimp only at PA hst
  generalize M.pE r=y3,M.pY r=y2,M.pX r=y1 at *;generalize M.dU a X Y E y1 y2 y3=z3,M.fH a X Y E y1 y2 y3=z2,M.dV a X Y E y1 y2 y3=z1 at *
  obtain ⟨f2,hf2⟩:∃ x,M.cX a X Y E y1 y2 y3=x:=⟨_,rfl⟩
  obtain ⟨f1,hf1⟩:∃ x,r.isSome=x:=⟨_,rfl⟩
  rw [hf2] at PA hst;rw [hf1] at PM hst;clear hf1 hf2 hr hp1 hq;replace PA:=DB PA;replace PM:=DB PM;replace hst:=DB hst;generalize n.getD i 0=k at *;subst hgn
  have hii:((i:Nat):Int)<(N:Int):=by omega
  have Bv:=bA wr (.cells #[x1,x2,x3] 40);have X_:=aG.new wr #[x1,x2,x3] 40;replace C:=C.keep Bv;replace R:=R.keep Bv;replace S:=S.keep Bv;replace B:=d_ B Bv;replace ci:=aE Bv ci;generalize hw2:wr.alloc (.cells #[x1,x2,x3] 40)=wb at *;clear Bv ni
  go_upto_region 5 with fail
  refine Rg.Ak 10 11 40 #[(0:Int),(0:Int),(0:Int)] #[y1,y2,y3] [.is (.agg #[a,b]),.is (.agg #[x1,x2,x3]),.is (.slice (some ⟨gn,RI,none⟩) N Ea),.is (.int .i64 ((i:Nat):Int)),.is (.pointer (some ⟨gn,RI+i,none⟩)),.is k,.is (.tuple #[.agg #[y1,y2,y3],f1]),.is (.tuple #[.agg #[y1,y2,y3],f1]),.is (.agg #[y1,y2,y3]),.is f1,.is (undef),.is (undef),.is f1] (by kernel_rfl) (by kernel_rfl) (by kernel_rfl) (fun j h1 h2=>match j,h1,h2 with | 0,h1,h2=>rfl | 1,h1,h2=>rfl | 2,h1,h2=>rfl | 3,h1,h2=>rfl | 4,h1,h2=>rfl | 5,h1,h2=>rfl | 6,h1,h2=>rfl | 7,h1,h2=>rfl | 8,h1,h2=>rfl | 9,h1,h2=>rfl | 10,h1,h2=>absurd rfl h1 | 11,h1,h2=>absurd rfl h2 | 12,h1,h2=>rfl | n+13,_,_=>rfl) (by decide) ⟨?_,?_,?_,?_,?_,?_,?_,?_,?_,?_,?_,?_,?_,trivial⟩ ?_
  ·unfold Rg.bS
   rw [if_neg (by decide),if_neg (by decide)];intro zZ w_ hB hr;have e3:zZ.tmps[3]?=some (.pointer (some ⟨w.heap.size,0,none⟩)):=hr 3 (by decide);have k0:=aE hB C.box.c0;have k1:=aE hB C.box.c1;exact Rg.aW rfl (by go_simp)
  ·unfold Rg.bS
   rw [if_neg (by decide),if_neg (by decide)];intro zZ w_ hB hr;have e10:zZ.tmps[10]?=some (.pointer (some ⟨wr.heap.size,0,none⟩)):=hr 10 (by decide);have k0:=aE hB X_.aO.1;have k1:=aE hB X_.aO.2.1;have k2:=aE hB X_.aO.2.2;exact Rg.aW rfl (by go_simp)
  ·unfold Rg.bS
   rw [if_neg (by decide),if_neg (by decide)];intro zZ w_ hB hr;have e2:zZ.tmps[2]?=some (.slice (some ⟨gn,RI,none⟩) N Ea):=hr 2 (by decide);exact Rg.aW rfl (by go_simp)
  ·unfold Rg.bS
   rw [if_neg (by decide),if_neg (by decide)];intro zZ w_ hB hr;have e9:zZ.tmps[9]?=some (.int .i64 ((i:Nat):Int)):=hr 9 (by decide);exact Rg.aW rfl (by go_simp)
  ·unfold Rg.bS
   rw [if_neg (by decide),if_neg (by decide)];intro zZ w_ hB hr;have e26:=Rg.l_ (hr 26 (by decide));have e27:=Rg.l_ (hr 27 (by decide));exact Rg.aW rfl (by (first | (go_simp;done) | (go_simp;omega)))
  ·unfold Rg.bS
   rw [if_neg (by decide),if_neg (by decide)];intro zZ w_ hB hr;have e28:=Rg.l_ (hr 28 (by decide));have k0:=aE hB ci;exact Rg.aW rfl (by (first | (go_simp;done) | (go_simp;omega)))
  ·unfold Rg.bS
   rw [if_neg (by decide),if_neg (by decide)];intro zZ w_ hB hr;have e24:=Rg.l_ (hr 24 (by decide));have e25:=Rg.l_ (hr 25 (by decide));have e29:=Rg.l_ (hr 29 (by decide));have ef:=Rg.ef zZ;exact Rg.bV rfl (by go_simp) (PM.out _)
  ·unfold Rg.bS
   rw [if_neg (by decide),if_neg (by decide)];intro zZ w_ hB hr;have e30:=Rg.l_ (hr 30 (by decide));exact Rg.aW rfl (by go_simp)
  ·unfold Rg.bS
   rw [if_neg (by decide),if_neg (by decide)];intro zZ w_ hB hr;have e23:=Rg.l_ (hr 23 (by decide));exact Rg.aW rfl (by go_simp)
  ·unfold Rg.bS
   rw [if_neg (by decide),if_neg (by decide)];intro zZ w_ hB hr;have e23:=Rg.l_ (hr 23 (by decide));exact Rg.aW rfl (by go_simp)
  ·unfold Rg.bS
   rw [if_pos rfl];intro zZ w_;exact Rg.nJ rfl (by first | (go_simp;done) | (go_simp;rfl))
  ·unfold Rg.bS
   rw [if_neg (by decide),if_pos rfl];intro zZ w_ h_ hh hn hr;have e11:zZ.tmps[11]?=some (.pointer (some ⟨h_,0,none⟩)):=hr 11 (by decide);have e31:=Rg.l_ (hr 31 (by decide));have ⟨y0,y1,y2,x0,x1,x2⟩:=hn.fS;refine ⟨rfl,?_⟩;unfold Oper.wp;go_simp
   exact ⟨aG.xr hn _ _ _,DD (DD (DD (DE _ _) hh _) hh _) hh _⟩
  ·unfold Rg.bS
   rw [if_neg (by decide),if_neg (by decide)];intro zZ w_ hB hr;have e32:=Rg.l_ (hr 32 (by decide));exact Rg.aW rfl (by go_simp)
  intro vals wz h_ hh hn Dj hB hv;have Et:vals 12=.bool f1:=hv 12 (by decide) (by decide) (by decide);simp only [Rg.bF,Rg.fill,Act.put,Nat.reduceAdd];clear hv;simp only [Dj,Et];clear Dj Et;have F_:wc.heap.size<h_:=Nat.lt_of_lt_of_le S.lt hh;replace C:=C.keep hB;replace R:=R.keep hB;replace S:=S.keep hB;replace B:=d_ B hB;clear hB X_ ci p0 p1 p2 hw2
  cases f1 <;> cases f2
  all_goals
   have ⟨c0,c1,_,_,_⟩:=C.box;have ⟨s0,s1,s2⟩:=S.aO;have ⟨n0,n1,n2⟩:=hn.aO
   go_wp2_with (go_at_call 50;(with_reducible refine (PA.out _).mono ?_);rintro e w7 ⟨rfl,DL⟩;replace B:=d_ B DL;replace C:=C.keep DL;replace R:=R.keep DL;replace S:=S.keep DL;have b_:=bA w7 (.cells #[z1,z2,z3] 40);replace B:=d_ B b_;replace C:=C.keep b_;replace R:=R.keep b_;replace S:=S.keep b_;(have ⟨r0,r1,r2,u0,u1,u2⟩:=R.fS);(have ⟨s0,s1,s2,t0,t1,t2⟩:=S.fS))
  iterate 3
   have hfin:=DB (hno.out hst.out);exact bodyPost_ret (v:=.tuple #[.agg #[(0:Int),(0:Int),(0:Int)],false]) (by simp [results,Tryz.results31,go_sem, *]) rfl (⟨by rw [hfin.out];rfl,EW B⟩)
  go_roundw
  case rel=>exact ⟨i+1,(z1,z2,z3),by omega,by go_num,DB hst.out,((C.other (by omega) _).other (by omega) _).other (by omega) _,((R.other (by omega) _).other (by omega) _).other (by omega) _,S.xr _ _ _,EW B⟩
  case measure=>simp [intOf];omega
 obtain rfl:i=N:=by omega
 have hfin:=DB (hres.out.symm.trans hs.out);have ⟨s0,s1,s2⟩:=S.aO;have ⟨r0,r1,r2,u0,u1,u2⟩:=R.fS;go_wp2;exact bodyPost_ret (v:=.tuple #[.agg #[X,Y,E],true]) (by simp [results,Tryz.results31,go_sem, *]) rfl (⟨by rw [hfin.out];rfl,EW B⟩)
theorem M.A8 {a b:Int} {l:List Pt} {n:List Int} (h:(M.bc a b l && M.fits n l.length)=false):M.Hj a b l n=false/\(M.rC a b l n).isSome=false:=by
 have e:M.rC a b l n=none:=if_neg (by rw [h];decide);unfold M.Hj;rw [e];exact ⟨rfl,rfl⟩
theorem M.yc {a b:Int} {l:List Pt} {n:List Int} (h1:M.bc a b l=true) (h2:M.fits n l.length=true):M.rC a b l n=M.eK a b l n l.length:=if_pos (by rw [h1,h2];rfl)
theorem jT (a b:Int) (v nv:Value) (l:List Pt) (n:List Int) (w:World) (hx:eA w v l) (hnx:cS w nv n) (hn:l.length<=4000000) :
  Calls Tryz.prog 10 #[.agg #[a,b],v,nv] w fun e w'=>e=.returned (.tuple #[M.Hj a b l n,.bool (M.rC a b l n).isSome])/\Below w.heap.size w w':=by
 have PL:=fun W h=>jw a b v l W h hn
 obtain ⟨pa,Ga,hpv,-⟩:=id hx
 have PF:=fun W (h:cS W nv n)=>l8 pa l.length Ga nv n W h
 rw [←hpv] at PF
 have PC:=fun h1 h2 W hx hnx=>tt a b v nv l n W hx hnx h1 h2
 have PZ:=fun W h=>ws nv n W h
 have e0:=fun h=>M.A8 (a:=a) (b:=b) (l:=l) (n:=n) h
 have e1:=fun h1 h2=>M.yc (a:=a) (b:=b) (l:=l) (n:=n) h1 h2
 have hok:=fun hg j s h=>M.nW (a:=a) (b:=b) (l:=l) (n:=n) hg j s h
 have hpg:=fun h=>(M.i9 (a:=a) (b:=b) (l:=l) h).1
 obtain ⟨na,Ea,hnv,hnl,hnc⟩:=hnx;have hnx:=DB (show cS w nv n from ⟨na,Ea,hnv,hnl,hnc⟩);replace hx:=DB hx;subst hnv hpv;clear hnc hnl;generalize n.length=K,l.length=N at *;obtain ⟨wc,hw3,C,B⟩:=dD w #[a,b] 25;have ⟨c0,c1,_,_,_⟩:=C.box;replace PL:=DB PL;replace PF:=DB PF;replace PZ:=DB PZ
 cases hp:M.bc a b l <;> cases hf:M.fits n N
 iterate 3
  obtain ⟨r1,r2⟩:=e0 (by rw [hp,hf];rfl);rw [r1,r2];rw [hp] at PL;rw [hf] at PF;replace PL:=DB PL.out;replace PF:=DB PF.out;clear PC PZ e0 e1 hok hpg r1 r2 hp hf;go_enter Tryz.func10,Tryz.ntmps10
  go_wp2_with first | (go_at_call 27;(with_reducible refine (PL.out _ (hx.out.below B)).mono ?_);rintro e w4 ⟨rfl,hb4⟩;replace B:=d_ B hb4;replace C:=C.keep hb4;(have ⟨c0,c1,_,_,_⟩:=C.box)) | (go_at_call 37;(with_reducible refine (PF.out _ (hnx.out.keep B)).mono ?_);rintro e w5 ⟨rfl,hb5⟩;replace B:=d_ B hb5;replace C:=C.keep hb5;(have ⟨c0,c1,_,_,_⟩:=C.box))
  go_ret2;exact ⟨rfl,B⟩
 rw [hp] at PL;rw [hf] at PF;replace PL:=DB PL.out;replace PF:=DB PF.out;replace PC:=PC hp hf;have hg:=hpg hp;have hv:=e1 hp hf
 have hrl:M.Hj a b l n=(M.eK a b l n N).any fun s=>M.nz n && M.dh a s:=by unfold M.Hj;rw [hv]
 rw [hrl,hv];clear hrl hv e0 e1 hpg hp hf
 obtain ⟨r,hr⟩:∃ r,M.eK a b l n N=r:=⟨_,rfl⟩
 rw [hr] at PC ⊢
 cases r with
 | none=>
  have PC:∀ W,eA W (.slice pa N Ga) l->cS W (.slice na K Ea) n->Calls Tryz.prog 31 #[.agg #[a,b],.slice pa N Ga,.slice na K Ea] W fun e w'=>e=.returned (.tuple #[.agg #[(0:Int),(0:Int),(0:Int)],false])/\Below W.heap.size W w':=PC
  rw [show (none:Option M.Dy).any (fun s=>M.nz n && M.dh a s)=false from rfl,show (none:Option M.Dy).isSome=false from rfl];replace PC:=DB PC;clear PZ hok hr;go_enter Tryz.func10,Tryz.ntmps10
  go_wp2_with first | (go_at_call 27;(with_reducible refine (PL.out _ (hx.out.below B)).mono ?_);rintro e w4 ⟨rfl,hb4⟩;replace B:=d_ B hb4;replace C:=C.keep hb4;(have ⟨c0,c1,_,_,_⟩:=C.box)) | (go_at_call 37;(with_reducible refine (PF.out _ (hnx.out.keep B)).mono ?_);rintro e w5 ⟨rfl,hb5⟩;replace B:=d_ B hb5;replace C:=C.keep hb5;(have ⟨c0,c1,_,_,_⟩:=C.box)) | (go_at_call 31;(with_reducible refine (PC.out _ (hx.out.below B) (hnx.out.keep B)).mono ?_);rintro e w6 ⟨rfl,hb6⟩;replace B:=d_ B hb6;replace C:=C.keep hb6;have X_:=aG.new w6 #[(0:Int),(0:Int),(0:Int)] 40;have b_:=bA w6 (.cells #[(0:Int),(0:Int),(0:Int)] 40);replace B:=d_ B b_;replace C:=C.keep b_;(have ⟨c0,c1,_,_,_⟩:=C.box))
  go_ret2;exact ⟨rfl,B⟩
 | some s=>
 obtain ⟨X,Y,E⟩:=s;have ht:=M.yP hg (hok hg _ _ hr)
 have PT:=fun W=>kD a b W hg
 have PX:=fun (v:Value) W (h:gQ W v (M.pJ a b)) (hl:(M.pJ a b).length<=12100)=>nX X Y E v (M.pJ a b) W h hl
 dsimp only at ht
 rw [ht] at PX
 have PC:∀ W,eA W (.slice pa N Ga) l->cS W (.slice na K Ea) n->Calls Tryz.prog 31 #[.agg #[a,b],.slice pa N Ga,.slice na K Ea] W fun e w'=>e=.returned (.tuple #[.agg #[X,Y,E],true])/\Below W.heap.size W w':=PC
 rw [show (some (X,Y,E)).any (fun s=>M.nz n && M.dh a s)=(M.nz n && (M.fJ a X Y E).isSome) from rfl,show (some (X,Y,E)).isSome=true from rfl];generalize M.pJ a b=ts,(M.fJ a X Y E).isSome=res at *;replace PC:=DB PC;replace PT:=DB PT;replace PX:=DB PX;clear hok hr ht hg
 cases hz:M.nz n
 ·rw [hz] at PZ
  replace PZ:=DB PZ.out;clear hz;go_enter Tryz.func10,Tryz.ntmps10
  go_upto_region 6 with first | (go_at_call 27;(with_reducible refine (PL.out _ (hx.out.below B)).mono ?_);rintro e w4 ⟨rfl,hb4⟩;replace B:=d_ B hb4;replace C:=C.keep hb4;(have ⟨c0,c1,_,_,_⟩:=C.box)) | (go_at_call 37;(with_reducible refine (PF.out _ (hnx.out.keep B)).mono ?_);rintro e w5 ⟨rfl,hb5⟩;replace B:=d_ B hb5;replace C:=C.keep hb5;(have ⟨c0,c1,_,_,_⟩:=C.box)) | (go_at_call 31;(with_reducible refine (PC.out _ (hx.out.below B) (hnx.out.keep B)).mono ?_);rintro e w6 ⟨rfl,hb6⟩;replace B:=d_ B hb6;replace C:=C.keep hb6;have X_:=aG.new w6 #[X,Y,E] 40;have b_:=bA w6 (.cells #[X,Y,E] 40);replace B:=d_ B b_;replace C:=C.keep b_;(have ⟨c0,c1,_,_,_⟩:=C.box))
  have HA:=hnx.out.keep B;generalize w6.alloc (.cells #[X,Y,E] 40)=wd at *;refine Rg.bg 11 [.is (.slice na K Ea),.is true,.is false,.is false,.is (undef),.is (undef),.is (undef),.is (undef),.is false,.is false,.is true] (by kernel_rfl) (by kernel_rfl) (by kernel_rfl) ⟨?_,?_,?_,?_,?_,?_,?_,?_,?_,?_,?_,trivial⟩ ?_
  all_goals try ((first | (refine Rg.b0 ?_;intro zZ w_ hB) | (refine Rg.b1 ?_;intro zZ w_ hB e) | (refine Rg.b2 ?_;intro zZ w_ hB e f));have ec:=Rg.ec zZ;(go_simp;done))
  ·refine Rg.o1 ?_;intro zZ w_ hB e
   have ef:=Rg.ef zZ;exact Rg.bV rfl (by go_simp) (PZ.out _ (HA.keep hB))
  ·intro _ zZ w_ hB hr;have e32:=Rg.l_ (hr 32 (by decide));exact Rg.Ae (Rg.tX (j:=3) (b:=false) rfl (Rg.Dg rfl e32))
  ·intro _ zZ w_ hB hr;have e32:=Rg.l_ (hr 32 (by decide));exact Rg.Ae (Rg.tX (j:=3) (b:=false) rfl (Rg.Dg rfl e32))
  ·intro _ zZ w_ hB hr;have e32:=Rg.l_ (hr 32 (by decide));exact Rg.Ae (Rg.tX (j:=3) (b:=false) rfl (Rg.Dg rfl e32))
  ·intro _ zZ w_ hB hr;have e32:=Rg.l_ (hr 32 (by decide));exact Rg.Ae (Rg.tX (j:=3) (b:=false) rfl (Rg.Dg rfl e32))
  intro vals wz hB hv hne;have EM:vals 9=.bool false:=hv 9 (by decide);have Dj:vals 10=.bool true:=hv 10 (by decide);simp only [Rg.bF,Rg.fill,Act.put,Nat.reduceAdd];clear hv;simp only [EM,Dj];clear EM Dj;replace B:=d_ B hB;clear hB hne;unfold Rg.aX;go_wp2;go_ret2;exact ⟨rfl,B⟩
 rw [hz] at PZ;replace PZ:=DB PZ.out;clear hz;go_enter Tryz.func10,Tryz.ntmps10
 go_upto_region 6 with first | (go_at_call 27;(with_reducible refine (PL.out _ (hx.out.below B)).mono ?_);rintro e w4 ⟨rfl,hb4⟩;replace B:=d_ B hb4;replace C:=C.keep hb4;(have ⟨c0,c1,_,_,_⟩:=C.box)) | (go_at_call 37;(with_reducible refine (PF.out _ (hnx.out.keep B)).mono ?_);rintro e w5 ⟨rfl,hb5⟩;replace B:=d_ B hb5;replace C:=C.keep hb5;(have ⟨c0,c1,_,_,_⟩:=C.box)) | (go_at_call 31;(with_reducible refine (PC.out _ (hx.out.below B) (hnx.out.keep B)).mono ?_);rintro e w6 ⟨rfl,hb6⟩;replace B:=d_ B hb6;replace C:=C.keep hb6;have X_:=aG.new w6 #[X,Y,E] 40;have b_:=bA w6 (.cells #[X,Y,E] 40);replace B:=d_ B b_;replace C:=C.keep b_;(have ⟨c0,c1,_,_,_⟩:=C.box))
 have HA:=hnx.out.keep B;generalize w6.alloc (.cells #[X,Y,E] 40)=wd at *;refine Rg.bg 11 [.is (.slice na K Ea),.is false,.is true,.is true,.is (.agg #[a,b]),.at (fun v W=>gQ W v ts/\ts.length<=12100),.is (.agg #[X,Y,E]),.is res,.is res,.is res,.is true] (by kernel_rfl) (by kernel_rfl) (by kernel_rfl) ⟨?_,?_,?_,?_,?_,?_,?_,?_,?_,?_,?_,trivial⟩ ?_
 all_goals try ((first | (refine Rg.b0 ?_;intro zZ w_ hB) | (refine Rg.b1 ?_;intro zZ w_ hB e) | (refine Rg.b2 ?_;intro zZ w_ hB e f));have ec:=Rg.ec zZ;(go_simp;done))
 ·refine Rg.o1 ?_;intro zZ w_ hB e
  have ef:=Rg.ef zZ;exact Rg.bV rfl (by go_simp) (PZ.out _ (HA.keep hB))
 ·intro _ zZ w_ hB hr
  have e3:zZ.tmps[3]?=some (.pointer (some ⟨w.heap.size,0,none⟩)):=hr 3 (by decide);have e32:=Rg.l_ (hr 32 (by decide));have DR:=C.keep hB;have ⟨k0,k1,_,_,_⟩:=DR.box;exact Rg.aW (Rg.ar (j:=3) (b:=true) rfl (Rg.Dg rfl e32)) (by (first | (go_simp;done)))
 ·intro _ zZ w_ hB hr
  have e32:=Rg.l_ (hr 32 (by decide));have e33:=Rg.l_ (hr 33 (by decide));have ef:=Rg.ef zZ;refine Rg.ah (Rg.ar (j:=3) (b:=true) rfl (Rg.Dg rfl e32)) (by go_simp;exact ⟨rfl,rfl⟩) ?_;refine (PT.out w_).mono ?_;rintro e w5 ⟨v5,rfl,Dw,hl5,hb5⟩;exact ⟨_,rfl,fun w6 hb6=>⟨Dw.below hb6,hl5⟩,hb5⟩
 ·intro _ zZ w_ hB hr
  have e8:zZ.tmps[8]?=some (.pointer (some ⟨w6.heap.size,0,none⟩)):=hr 8 (by decide);have e32:=Rg.l_ (hr 32 (by decide));have DR:=X_.keep hB;have ⟨k0,k1,k2⟩:=DR.aO;exact Rg.aW (Rg.ar (j:=3) (b:=true) rfl (Rg.Dg rfl e32)) (by (first | (go_simp;done)))
 ·intro _ zZ w_ hB hr
  have e32:=Rg.l_ (hr 32 (by decide));obtain ⟨v34,e34,n34⟩:∃ v,zZ.tmps[34]?=some v/\(Rg.Val.at (fun v W=>gQ W v ts/\ts.length<=12100)).ok v w_:=hr 34 (by decide);have e35:=Rg.l_ (hr 35 (by decide));have ef:=Rg.ef zZ;exact Rg.bV (Rg.ar (j:=3) (b:=true) rfl (Rg.Dg rfl e32)) (by go_simp) (PX.out v34 w_ (Rg.bs n34).1 (Rg.bs n34).2)
 intro vals wz hB hv hne;have EM:vals 9=.bool res:=hv 9 (by decide);have Dj:vals 10=.bool true:=hv 10 (by decide);simp only [Rg.bF,Rg.fill,Act.put,Nat.reduceAdd];clear hv;simp only [EM,Dj];clear EM Dj;replace B:=d_ B hB;clear hB hne;unfold Rg.aX;go_wp2;go_ret2;exact ⟨rfl,B⟩
end
section
open Go.RowKit Go.Shelf
theorem dr.v {w:World} {v:Value} {xs:List Pt} (h:dr w v xs):eA w v xs:=by
 obtain ⟨A,cap,rfl,-,h⟩:=h;refine ⟨A,cap,rfl,?_⟩
 cases xs with
 | nil=>exact Or.inl rfl
 | cons p l=>
 obtain ⟨g,o,x,rfl,-⟩:=h 0 (by simp);refine Or.inr ⟨g,o,rfl,fun k q hq=>?_⟩;obtain ⟨g2,o2,y,e,-,hy,h0,h1,h2⟩:=h k (List.getElem?_eq_some_iff.1 hq).1;cases e
 rw [hq] at hy;obtain rfl:=Option.some.inj hy.out;exact ⟨h0,h1,h2⟩
theorem M.A5 {a b:Int} {l:List Pt} {n d:Int} (h:M.j6 a b l n d=false):M.GS a b l n d=false:=by unfold M.GS;rw [h];rfl
theorem zM {a b X Y E:Int} (h:M.iW a b X Y E=true/\M.fJ a X Y E=none) (w:World) :
  Calls Tryz.prog 23 #[.agg #[a,b],.agg #[X,Y,E]] w fun e w'=>e=.returned (.tuple #[(0:Int),false])/\Below w.heap.size w w':=by
 have q:=iV a b X Y E w;rw [h.1,h.2] at q;exact q
theorem law_CertificateHolds (a b n d:Int) (v nv:Value) (xs:List Pt) (ns:List Int) (w:World) (hx:dr w v xs) (hnx:cS w nv ns) :
  Calls Tryz.prog 4 #[.agg #[a,b,v,n,d],nv] w fun e w'=>e=.returned (.bool true)/\Below w.heap.size w w':=by
 have E1:=fun w h hn=>gF a b n d v xs w h hn
 have E2:=fun w h hn=>gC a b n d v xs w h hn
 have E3:=fun w h hn2 hn=>jT a b v nv xs ns w h hn2 hn
 have hrl:=fun h=>M.CW (a:=a) (b:=b) (l:=xs) (n:=n) (d:=d) (m:=ns) h
 have hto:=fun h P hP=>M.A6 (a:=a) (b:=b) (l:=xs) (n:=n) (d:=d) h (P:=P) hP
 have hno:=fun h=>M.A5 (a:=a) (b:=b) (l:=xs) (n:=n) (d:=d) h
 generalize (M.rC a b xs ns).isSome=t4,M.Hj a b xs ns=t3,M.j6 a b xs n d=t2,M.GS a b xs n d=t1 at *;replace hx:=DB hx.v;have QJ:=hnx;replace hnx:=DB hnx;obtain ⟨A,cap,rfl,hv⟩:=id hx.out;obtain ⟨A2,cap2,rfl,-,-⟩:=QJ
 obtain ⟨N,hN⟩:∃ N,N=xs.length:=⟨_,rfl⟩
 rw [←hN] at E1 E2 E3 hx ⊢;generalize ns.length=K at *;obtain ⟨wc,hw3,C,B⟩:=dD w #[a,b,.slice A N cap,n,d] 51;have ⟨k0,k1,k2,k3,k4⟩:=C.cg
 rcases Nat.lt_or_ge 65536 N with h1 | h1
 ·have hd:decide ((65536:Int)<(N:Int))=true:=decide_eq_true (by omega)
  clear E1 E2 E3 hrl hto hno hv hN;go_enter Tryz.func4,Tryz.ntmps4
  go_wp2;go_ret;exact ⟨rfl,B⟩
 have hd:decide ((65536:Int)<(N:Int))=false:=decide_eq_false (by omega)
 rcases Nat.lt_or_ge 65536 K with h2 | h2
 ·have hd2:decide ((65536:Int)<(K:Int))=true:=decide_eq_true (by omega)
  clear E1 E2 E3 hrl hto hno hv hN;go_enter Tryz.func4,Tryz.ntmps4
  go_wp2;go_ret;exact ⟨rfl,B⟩
 have hd2:decide ((65536:Int)<(K:Int))=false:=decide_eq_false (by omega)
 have FB:N<=4000000:=by omega
 replace E1:=DB fun w h=>E1 w h FB
 replace E2:=DB fun w h=>E2 w h FB
 replace E3:=fun w h h2=>E3 w h h2 FB
 replace hN:=DB hN;cases t2
 ·obtain rfl:=hno rfl
  clear E3 hrl hto hv hno;go_enter Tryz.func4,Tryz.ntmps4
  go_wp2_with (first
   | (go_at_call 21;(with_reducible refine (E2.out _ (hx.out.below B)).mono ?_);rintro e w4 ⟨rfl,hb4⟩;replace B:=d_ B hb4;replace C:=C.keep hb4;(have ⟨k0,k1,k2,k3,k4⟩:=C.cg))
   | (go_at_call 22;(with_reducible refine (E1.out _ (hx.out.below B)).mono ?_);rintro e w5 ⟨rfl,hb5⟩;replace B:=d_ B hb5;replace C:=C.keep hb5;(have ⟨k0,k1,k2,k3,k4⟩:=C.cg)))
  go_ret;exact ⟨rfl,B⟩
 cases t1
 ·clear E3 hrl hto hv hno
  go_enter Tryz.func4,Tryz.ntmps4
  go_wp2_with (first
   | (go_at_call 21;(with_reducible refine (E2.out _ (hx.out.below B)).mono ?_);rintro e w4 ⟨rfl,hb4⟩;replace B:=d_ B hb4;replace C:=C.keep hb4;(have ⟨k0,k1,k2,k3,k4⟩:=C.cg))
   | (go_at_call 22;(with_reducible refine (E1.out _ (hx.out.below B)).mono ?_);rintro e w5 ⟨rfl,hb5⟩;replace B:=d_ B hb5;replace C:=C.keep hb5;(have ⟨k0,k1,k2,k3,k4⟩:=C.cg)))
  go_ret;exact ⟨rfl,B⟩
 rw [hrl rfl] at E3;replace E3:=DB E3
 replace hto:=DB fun P hP=>hto rfl P hP
 replace hv:=DB hv;clear hno hrl;go_enter Tryz.func4,Tryz.ntmps4
 go_wp2_with (first
  | (go_at_call 21;(with_reducible refine (E2.out _ (hx.out.below B)).mono ?_);rintro e w4 ⟨rfl,hb4⟩;replace B:=d_ B hb4;replace C:=C.keep hb4;(have ⟨k0,k1,k2,k3,k4⟩:=C.cg))
  | (go_at_call 22;(with_reducible refine (E1.out _ (hx.out.below B)).mono ?_);rintro e w5 ⟨rfl,hb5⟩;replace B:=d_ B hb5;replace C:=C.keep hb5;(have ⟨k0,k1,k2,k3,k4⟩:=C.cg)))
 go_loopw [51] (fun vi wq=>∃ i:Nat,i<=N/\vi=.int .i64 (i:Int)/\aG wq w.heap.size 51 #[a,b,.slice A N cap,n,d]/\Below w.heap.size w wq) (fun vi _=>N - (intOf vi).toNat)
 case atStart=>exact ⟨0,Nat.zero_le _,rfl,C,B⟩
 case round=>
 clear B C k0 k1 k2 k3 k4;obtain ⟨i,hi,rfl,C,B⟩:=hrel;have ⟨k0,k1,k2,k3,k4⟩:=C.cg
 by_cases hlt:i<N
 ·obtain ⟨⟨x1,x2,x3⟩,hq⟩:∃ p,xs[i]?=some p:=⟨_,List.getElem?_eq_getElem (by have:=hN.out;omega)⟩
  obtain ⟨g,o_,rfl,hp⟩:=hv.out.resolve_left (fun h=>by rw [h] at hq;cases hq);have hh:=hto.out _ (List.mem_of_getElem? hq)
  dsimp only at hh
  have ⟨p0,p1,p2⟩:=(hp.below B) i _ hq
  dsimp only at p0 p1 p2
  have PO:=DB fun W=>zM hh W
  have PI:=fun W=>j8 a b x1 x2 x3 W
  rw [hh.1] at PI;replace PI:=DB PI;clear hh hp hq;have X:=aG.new wr #[x1,x2,x3] 40;have b_:=bA wr (.cells #[x1,x2,x3] 40);replace C:=C.keep b_;replace B:=d_ B b_;clear b_;have ⟨c0,c1,c2,c3,c4⟩:=C.cg;have ⟨q0,q1,q2⟩:=X.aO
  go_wp2_with (first
   | (go_at_call 23;(with_reducible refine (PO.out _).mono ?_);rintro e w4 ⟨rfl,hb4⟩;replace B:=d_ B hb4;replace C:=C.keep hb4;replace X:=X.keep hb4;(have ⟨k0,k1,k2,k3,k4⟩:=C.cg);(have ⟨q0,q1,q2⟩:=X.aO))
   | (go_at_call 24;(with_reducible refine (PI.out _).mono ?_);rintro e w5 ⟨rfl,hb5⟩;replace B:=d_ B hb5;replace C:=C.keep hb5))
  go_roundw
  case rel=>exact ⟨i+1,by omega,by go_num,C,B⟩
  case measure=>simp [intOf];omega
 obtain rfl:i=N:=by omega
 go_wp2_with (go_at_call 10;(with_reducible refine (E3.out _ (hx.out.below B) (hnx.out.keep B)).mono ?_);rintro e w4 ⟨rfl,hb4⟩;replace B:=d_ B hb4)
 go_ret;exact ⟨rfl,B⟩
end
section
open Go.ChangeShapes Go.WideShapes Go.ChangeAt Go.RowKit Go.Joins Go.Deep
theorem oR {H:Type} {enc:TypeId × Value->H} {P:Program} {w:World} {base fuel:Nat} {held:Bool} {t te ti:TypeId} {f0 f1 f2:Field} {v:Value} {x0:DataW H × List MemPlace}
  (ht:P.underlying t=some (.slice te)) (he:P.underlying te=some (.struct #[f0,f1,f2])) (t0:f0.type=ti) (t1:f1.type=ti) (t2:f2.type=ti) (hi:P.underlying ti=some (.int .i64)) (ce:P.cellsOf te=3) (o0:f0.offset=0) (o1:f1.offset=1) (o2:f2.offset=2)
  (ci:P.cellsOf ti=1) (hf:DataW.trod enc P w base (fun _=>true) held fuel t [v]=some x0) :
  ∃ xs:List Pt,dr w v xs:=by
 obtain ⟨a1,len,cap,e⟩:=slice_form ht hf
 injection e with e _
 subst e
 rcases open_slice ht hf with ⟨hcs,hx⟩ | ⟨a,len',cap',m,n,D,Pl,hcs,hb,hl,hm,hmm,hx,hall⟩
 ·simp at hcs
  obtain ⟨rfl,rfl,rfl⟩:=hcs;exact ⟨[],none,0,rfl,by simp,fun k hk=>absurd hk (by simp)⟩
 simp at hcs
 obtain ⟨rfl,rfl,rfl⟩:=hcs;simp only [if_true] at hmm
 have each:∀ i,i<len->∃ q:Pt,w.cell? (a.add (i*3))=some (.int .i64 q.1)/\w.cell? (a.add (i*3+1))=some (.int .i64 q.2.1)/\w.cell? (a.add (i*3+2))=some (.int .i64 q.2.2):=by
  intro i hi2;obtain ⟨cs',h1,h2⟩:=hall i (by omega);rw [ce] at h1;obtain ⟨_,hlen,hcell⟩:=World.cells?_some h1;obtain ⟨xs,k,hk,hxy,_,hxl,Hf⟩:=DataW.trod_struct he h2
  match xs,hxl,cs',hlen with
  | [y0,y1,y2],_,[v0,v1,v2],_=>
  have g0:=Hf 0 f0 rfl;have g1:=Hf 1 f1 rfl;have g2:=Hf 2 f2 rfl;simp [o0,o1,o2,t0,t1,t2,ci] at g0 g1 g2
  have e0:=hcell 0 (by omega);have e1:=hcell 1 (by omega);have e2:=hcell 2 (by omega);rw [add_add] at e0 e1 e2;obtain ⟨x,ex,-,-⟩:=DataW.trod_int hi g0;obtain ⟨y,ey,-,-⟩:=DataW.trod_int hi g1;obtain ⟨z,ez,-,-⟩:=DataW.trod_int hi g2;simp only [List.cons.injEq,and_true] at ex ey ez;subst ex ey ez;refine ⟨(intOf (.int .i64 x),intOf (.int .i64 y),intOf (.int .i64 z)),?_,?_,?_⟩
  ·simpa [intOf] using e0
  ·simpa [intOf] using e1
  simpa [intOf] using e2
 obtain ⟨q,hq⟩:=choose_lt each;refine ⟨(List.range len).map q,some a,cap,by simp,by simp;unfold maxLen at hm;omega,fun k hk=>?_⟩
 have hk':k<len:=by simpa using hk
 obtain ⟨h1,h2,h3⟩:=hq k hk';obtain ⟨ab,ao,spot⟩:=a
 have hspot:spot=none:=by simpa [Addr.add] using World.cell?_spot (hq 0 (by omega)).1
 subst hspot;rw [Addr.add_lit] at h1 h2 h3;exact ⟨ab,ao,q k,rfl,World.block_lt_of_cell? w _ h1,DB (by rw [List.getElem?_map,List.getElem?_range hk'];rfl),h1,by rw [Nat.add_assoc];exact h2,by rw [Nat.add_assoc];exact h3⟩
theorem Az {α:Type} {cs:Array α} (h:cs.size=5):∃ c0 c1 c2 c3 c4,cs=#[c0,c1,c2,c3,c4]:=by
 obtain ⟨l⟩:=cs
 match l,h with
 | [c0,c1,c2,c3,c4],_=>exact ⟨c0,c1,c2,c3,c4,rfl⟩
theorem mg {H:Type} {enc:TypeId × Value->H} {P:Program} {w:World} {base fuel:Nat} {spare:Nat->Bool} {held:Bool} {t ti:TypeId} {f0 f1:Field} {u v:Value} {x:DataW H × List MemPlace}
  (hs:P.underlying t=some (.struct #[f0,f1])) (h0:f0.type=ti) (h1:f1.type=ti) (hi:P.underlying ti=some (.int .i64)) (o0:f0.offset=0) (o1:f1.offset=1) (ci:P.cellsOf ti=1) (hf:DataW.trod enc P w base spare held fuel t [u,v]=some x) :
  ∃ a b,u=.int .i64 a/\v=.int .i64 b/\M.Ik a/\M.Ik b:=by
 obtain ⟨xs,n,-,-,-,hl,Hf⟩:=DataW.trod_struct hs hf
 match xs,hl with
 | [y0,y1],_=>
 have g0:=Hf 0 f0 rfl;have g1:=Hf 1 f1 rfl;simp [o0,o1,h0,h1,ci] at g0 g1
 obtain ⟨a,ea,-,wa⟩:=DataW.trod_int hi g0;obtain ⟨b,eb,-,wb⟩:=DataW.trod_int hi g1;simp only [List.cons.injEq,and_true] at ea eb;exact ⟨a,b,ea,eb,M.mR wa,M.mR wb⟩
theorem open_cert {H:Type} {enc:TypeId × Value->H} {P:Program} {w:World} {base b0:Nat} {held:Bool} {r:Reach} {t tc ts te tf ti:TypeId} {f0 f1 f2 c0 c1 p0 p1 p2 r0 r1:Field} {v:Value} {d:DataW H} {ps:List MemPlace}
  (hs:P.underlying t=some (.struct #[f0,f1,f2])) (h0:f0.type=tc) (h1:f1.type=ts) (h2:f2.type=tf) (o0:f0.offset=0) (o1:f1.offset=2) (o2:f2.offset=3) (ct:P.cellsOf t=5)
  (hc:P.underlying tc=some (.struct #[c0,c1])) (hc0:c0.type=ti) (hc1:c1.type=ti) (oc0:c0.offset=0) (oc1:c1.offset=1) (cc:P.cellsOf tc=2)
  (hf:P.underlying tf=some (.struct #[r0,r1])) (hf0:r0.type=ti) (hf1:r1.type=ti) (of0:r0.offset=0) (of1:r1.offset=1) (cf:P.cellsOf tf=2)
  (hl:P.underlying ts=some (.slice te)) (cs1:P.cellsOf ts=1) (he:P.underlying te=some (.struct #[p0,p1,p2])) (t0:p0.type=ti) (t1:p1.type=ti) (t2:p2.type=ti) (ce:P.cellsOf te=3) (q0:p0.offset=0) (q1:p1.offset=1) (q2:p2.offset=2)
  (hi:P.underlying ti=some (.int .i64)) (ci:P.cellsOf ti=1) (hv:Value.okWide P w r b0 t v) (h:DataW.Trod enc P w base (fun _=>true) held t v d ps) :
  ∃ (a b n d:Int) (u:Value) (xs:List Pt),v=.agg #[a,b,u,n,d]/\M.Ik a/\M.Ik b/\M.Ik n/\M.Ik d/\dr w u xs:=by
 obtain ⟨cs,rfl,hsz⟩:=okWide_struct hs hv;obtain ⟨v0,v1,v2,v3,v4,rfl⟩:=Az (hsz.trans ct);obtain ⟨fuel,hf'⟩:=h;obtain ⟨xs,n,-,-,-,hlen,Hf⟩:=DataW.trod_struct hs hf'
 match xs,hlen with
 | [y0,y1,y2],_=>
 have g0:=Hf 0 f0 rfl;have g1:=Hf 1 f1 rfl;have g2:=Hf 2 f2 rfl;simp [Value.cells,o0,o1,o2,h0,h1,h2,cc,cs1,cf] at g0 g1 g2
 obtain ⟨a,b,rfl,rfl,ia,ib⟩:=mg hc hc0 hc1 hi oc0 oc1 ci g0;obtain ⟨n,d,rfl,rfl,in',id'⟩:=mg hf hf0 hf1 hi of0 of1 ci g2;obtain ⟨l,hp⟩:=oR hl he t0 t1 t2 hi ce q0 q1 q2 ci g1;exact ⟨a,b,n,d,v2,l,rfl,ia,ib,in',id',hp⟩
end
end Go.Proofs.YtkalaljcbmkbmaaGreat
