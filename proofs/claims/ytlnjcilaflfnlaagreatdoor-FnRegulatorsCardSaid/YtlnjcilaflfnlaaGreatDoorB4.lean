/-
  Joined: contracts, lemmas.
-/
import Derived.Test.YtlnjcilaflfnlaaGreatDoorB3
import Derived.Laws.FloatArith
import Derived.Laws.Externs
set_option linter.unusedSimpArgs false
set_option linter.unusedVariables false
set_option maxRecDepth 100000
set_option maxHeartbeats 8000000
namespace Go.Proofs.YtlnjcilaflfnlaaGreatDoor
open _root_.Go.Proofs.Tryz
section
open Go.RowKit open Gr M Rg Rw Wh
theorem my (lo hi:Int) (w:World) :
  cB 67 #[.agg #[lo,hi]] w (aJ lo hi):=by
 unfold aJ
 by_cases h1:lo<=hi
 ·by_cases h2:-409600000<=lo
  ·by_cases h3:hi<=409600000
   all_goals
    go_enter func67,ntmps67
    go_wp2;go_ret;exact ⟨fm (by simp [h1,h2,h3]),LV⟩
  go_enter func67,ntmps67
  go_wp2;go_ret;exact ⟨fm (by simp [h1,h2] <;> omega),LV⟩
 go_enter func67,ntmps67
 go_wp2;go_ret;exact ⟨fm (by simp [h1] <;> omega),LV⟩
theorem Iw (a b c d:Int) (w:World) (h1:-4000000000000000000<=a) (h2:a<=4000000000000000000) (h3:-4000000000000000000<=b) (h4:b<=4000000000000000000) (h5:-4000000000000000000<=c) (h6:c<=4000000000000000000) (h7:-4000000000000000000<=d) (h8:d<=4000000000000000000) :
  cB 89 #[.agg #[a,b],.agg #[c,d]] w (.agg #[(a+c:Int),(b+d:Int)]):=by
 go_enter func89,ntmps89
 go_wp2;exact KU results89 ⟨rfl,LV⟩
theorem GA (a b c d:Int) (w:World) (h1:-4000000000000000000<=a) (h2:a<=4000000000000000000) (h3:-4000000000000000000<=b) (h4:b<=4000000000000000000) (h5:-4000000000000000000<=c) (h6:c<=4000000000000000000) (h7:-4000000000000000000<=d) (h8:d<=4000000000000000000) :
  cB 154 #[.agg #[a,b],.agg #[c,d]] w (.agg #[(a - d:Int),(b - c:Int)]):=by
 go_enter func154,ntmps154
 go_wp2;exact KU results154 ⟨rfl,LV⟩
theorem Cn (a b c d:Int) (w:World) :
  cB 100 #[.agg #[a,b],.agg #[c,d]] w (.agg #[(max a c:Int),(min b d:Int)]):=by
 go_enter func100,ntmps100
 go_wp2;exact KU results100 ⟨rfl,LV⟩
namespace M
def cO (a b c d:Int):Int:=min (a*c) (min (a*d) (min (b*c) (b*d)))
def cN (a b c d:Int):Int:=max (a*c) (max (a*d) (max (b*c) (b*d)))
theorem Hl {a b c d:Int} (h1:-1000000000<=a) (h2:a<=1000000000) (h3:-1000000000<=b) (h4:b<=1000000000) (h5:-1000000000<=c) (h6:c<=1000000000) (h7:-1000000000<=d) (h8:d<=1000000000) :
  -1000000000000000000<=cO a b c d/\cO a b c d<=1000000000000000000/\-1000000000000000000<=cN a b c d/\cN a b c d<=1000000000000000000:=by
 have q1:=aH (x:=a) (y:=c) (m:=1000000000) (n:=1000000000) h1 h2 h5 h6;have q2:=aH (x:=a) (y:=d) (m:=1000000000) (n:=1000000000) h1 h2 h7 h8;have q3:=aH (x:=b) (y:=c) (m:=1000000000) (n:=1000000000) h3 h4 h5 h6;have q4:=aH (x:=b) (y:=d) (m:=1000000000) (n:=1000000000) h3 h4 h7 h8;unfold cO cN;omega
end M
theorem EY {P:Program} (ts:Array TypeId) (t:TypeId) (p q r s:Int) (W:World):Sem.run P (Builtin.min_ ts t #[p,q,r,s]) W=.ok (.int .i64 (min p (min q (min r s)))) W:=by
 simp [Builtin.min_,Builtin.min2]
 repeat' split
 all_goals omega
theorem EX {P:Program} (ts:Array TypeId) (t:TypeId) (p q r s:Int) (W:World):Sem.run P (Builtin.max_ ts t #[p,q,r,s]) W=.ok (.int .i64 (max p (max q (max r s)))) W:=by
 simp [Builtin.max_,Builtin.max2]
 repeat' split
 all_goals omega
theorem Gt (a b c d:Int) (w:World) (h1:-1000000000<=a) (h2:a<=1000000000) (h3:-1000000000<=b) (h4:b<=1000000000) (h5:-1000000000<=c) (h6:c<=1000000000) (h7:-1000000000<=d) (h8:d<=1000000000) :
  cB 90 #[.agg #[a,b],.agg #[c,d]] w (.agg #[(cO a b c d / 4096:Int),(-(-cN a b c d / 4096):Int)]):=by
 have q1:=aH (x:=a) (y:=c) (m:=1000000000) (n:=1000000000) h1 h2 h5 h6;have q2:=aH (x:=a) (y:=d) (m:=1000000000) (n:=1000000000) h1 h2 h7 h8;have q3:=aH (x:=b) (y:=c) (m:=1000000000) (n:=1000000000) h3 h4 h5 h6;have q4:=aH (x:=b) (y:=d) (m:=1000000000) (n:=1000000000) h3 h4 h7 h8;obtain ⟨t1,t2,t3,t4⟩:=Hl h1 h2 h3 h4 h5 h6 h7 h8;have Lb:cO a b c d=min (a*c) (min (a*d) (min (b*c) (b*d))):=rfl;have hma:cN a b c d=max (a*c) (max (a*d) (max (b*c) (b*d))):=rfl
 have P1:=fun W=>iN (cO a b c d) 4096 W ω ω ω ω
 have P2:=fun W=>iN (-cN a b c d) 4096 W ω ω ω ω
 have f2:=fE (a:=-cN a b c d) (b:=4096) (k:=1000000000000000000) ω ω ω ω;obtain ⟨f3,f4⟩:=f2;replace P1:=KO P1;replace P2:=KO P2;generalize cN a b c d=ma,cO a b c d=mi at *;obtain ⟨wc,hw3,S,T,R,B⟩:=dF w #[a,b] 72 #[c,d] 72 #[(0:Int),(0:Int)] 72;replace Lb:=KO Lb;replace hma:=KO hma;go_enter func90,ntmps90
 go_wp2
 go_upto_region 1 with fail
 refine be 24 [.is (.pointer (some ⟨w,0,none⟩)),.is a,.is (.pointer (some ⟨w.heap.size+1,0,none⟩)),.is c,.is (a*c:Int),.is (.pointer (some ⟨w,0,none⟩)),.is a,.is (.pointer (some ⟨w.heap.size+1,1,none⟩)),.is d,.is (a*d:Int),.is (.pointer (some ⟨w,1,none⟩)),.is b,.is (.pointer (some ⟨w.heap.size+1,0,none⟩)),.is c,.is (b*c:Int),.is (.pointer (some ⟨w,1,none⟩)),.is b,.is (.pointer (some ⟨w.heap.size+1,1,none⟩)),.is d,.is (b*d:Int),.is (a*c:Int),.is (a*d:Int),.is (b*c:Int),.is (b*d:Int)] κ κ κ ⟨?_,?_,?_,?_,?_,?_,?_,?_,?_,?_,?_,?_,?_,?_,?_,?_,?_,?_,?_,?_,?_,?_,?_,?_,trivial⟩ ?_
 all_goals try ((first | (refine Rg.b1 ?_;intro zZ w_ hB e) | (refine Rg.b2 ?_;intro zZ w_ hB e f));have kz:=aE hB S.box.c0;have kz:=aE hB T.box.c0;have kz:=aE hB T.box.c1;have kz:=aE hB S.box.c1;(first | (go_simp;done) | (go_simp;exact Rg.wo ω)))
 intro vals wz hB hv hne;have Rq:vals 20=.int .i64 (a*c):=hv 20 δ;have Xw:vals 21=.int .i64 (a*d):=hv 21 δ;have Oc:vals 22=.int .i64 (b*c):=hv 22 δ;have Rr:vals 23=.int .i64 (b*d):=hv 23 δ;simp only [bD,Rg.fill,Act.put,Nat.reduceAdd];clear hv;simp only [Rq,Xw,Oc,Rr];clear Rq Xw Oc Rr;replace R:=R.keep hB;have ⟨c0,c1,f0,f1,_⟩:=R.box;have hw4:=p_ B hB;clear S T hw3 hB B;generalize b*d=s,b*c=r,a*d=q,a*c=p at *;unfold aU;have P3:=P1.out;have P4:=P2.out;rw [Lb.out] at P3;rw [hma.out] at P4;replace P3:=KO P3;replace P4:=KO P4;rw [Lb.out] at t1 t2;rw [hma.out] at t3 t4 f3 f4;clear P1 P2
 have m4:=fun (W:World) ts t=>EY (P:=prog) ts t p q r s W
 have x4:=fun (W:World) ts t=>EX (P:=prog) ts t p q r s W
 rw [show w.heap.size+2=w.heap.size+1+1 by omega] at c0 c1 f0 f1
 go_wp2_with (first | (with_reducible refine Kw (P3.out _) ?_) | (with_reducible refine Kw (P4.out _) ?_))
 exact KU (v:=.agg #[(min p (min q (min r s)) / 4096:Int),(-(-max p (max q (max r s)) / 4096):Int)]) results90 ⟨by rw [Lb.out,hma.out],LV⟩
theorem Qg {p:Prop} (h:p:=by simp only [Bool.and_eq_true,decide_eq_true_eq];omega):p:=h
theorem jD (lo hi:Int) (ok:Bool) (w:World) :
  cB 30 #[.agg #[lo,hi],ok] w (.tuple #[.agg #[M.pick (ok && aJ lo hi) (M.pn lo),M.pick (ok && aJ lo hi) (M.pd (lo)),M.pick (ok && aJ lo hi) (M.pn (hi)),M.pick (ok && aJ lo hi) (M.pd (hi))],.bool (ok && aJ lo hi)]):=by
 have PV:=KO fun W=>my lo hi W
 cases ok with
 | false=>
  go_enter func30,ntmps30
  go_wp2;exact KU (v:=.tuple #[.agg #[(0:Int),(0:Int),(0:Int),(0:Int)],false]) results30 ⟨by simp [M.pick],LV⟩
 | true=>
 cases hs:aJ lo hi with
 | false=>
  have Qy:=PV.out;rw [hs] at Qy;have Qy:=KO Qy;clear PV hs
  have R:=((aG.new (w.alloc (.cells #[lo,hi] 72)) #[(0:Int),(0:Int),(0:Int),(0:Int)] 34))
  rw [KQ] at R;have B:=((KS w w).alloc (KT _) (.cells #[lo,hi] 72)).alloc (by rw [KQ];omega) (.cells #[(0:Int),(0:Int),(0:Int),(0:Int)] 34);go_enter func30,ntmps30
  go_wp2_with (with_reducible refine G_ Qy fun w4 hb4=>?_;have R2:=(R.keep hb4).aI;(have ⟨c0,c1,c2,c3,f0,f1,f2,f3,_⟩:=R2);have B4:=p_ B hb4)
  exact KU (v:=.tuple #[.agg #[(0:Int),(0:Int),(0:Int),(0:Int)],false]) results30 ⟨by simp [M.pick],Lv B4⟩
 | true=>
 obtain ⟨h1,h2,h3⟩:=bM hs;have Qy:=PV.out;rw [hs] at Qy;have Qy:=KO Qy;clear PV hs
 have P1:=fun W=>kD lo 4096 W ω ω ω ω ω
 have P2:=fun W=>kD hi 4096 W ω ω ω ω ω
 have e1:=KO (show M.pn lo=M.fN (M.LX lo 4096) from rfl);have e2:=KO (show M.pd lo=M.fD (M.LX lo 4096) from rfl);have e3:=KO (show M.pn hi=M.fN (M.LX hi 4096) from rfl);have e4:=KO (show M.pd hi=M.fD (M.LX hi 4096) from rfl);generalize M.fD (M.LX hi 4096)=p4,M.fN (M.LX hi 4096)=p3,M.fD (M.LX lo 4096)=p2,M.fN (M.LX lo 4096)=p1,(M.LX hi 4096).isSome=o2,(M.LX lo 4096).isSome=o1 at *;replace P1:=KO P1;replace P2:=KO P2;obtain ⟨wc,hw3,S,R,B⟩:=dQ w #[lo,hi] 72 #[(0:Int),(0:Int),(0:Int),(0:Int)] 34;have MZ:=S.box.c0;have Ma:=S.box.c1;go_enter func30,ntmps30
 go_wp2_with (first
  | (with_reducible refine G_ Qy fun w4 hb4=>?_;replace ⟨S,R,B⟩:=Ky hb4 S R B;(replace ⟨MZ,Ma⟩:=S.b2);(replace ⟨D_,F_,I_,J_,B_,C_,KV,KW⟩:=R.LA))
  | (with_reducible refine G_ P1 fun w5 hb5=>?_;replace ⟨S,R,B⟩:=Ky hb5 S R B;have F:=aG.new w5 #[p1,p2] 32;have b_:=bA w5 (.cells #[p1,p2] 32);replace ⟨S,R,B⟩:=Ky b_ S R B;clear b_;(replace ⟨MZ,Ma⟩:=S.b2);(replace ⟨D_,F_,I_,J_,B_,C_,KV,KW⟩:=R.LA);(replace ⟨Oy,Oz⟩:=F.b2))
  | (with_reducible refine G_ P2 fun w6 hb6=>?_;replace ⟨S,R,F,B⟩:=Kl hb6 S R F B;have G:=aG.new w6 #[p3,p4] 32;have b_:=bA w6 (.cells #[p3,p4] 32);replace ⟨S,R,F,B⟩:=Kl b_ S R F B;clear b_;(replace ⟨MZ,Ma⟩:=S.b2);(replace ⟨D_,F_,I_,J_,B_,C_,KV,KW⟩:=R.LA);(replace ⟨Oy,Oz⟩:=F.b2);(replace ⟨Sj,Sk⟩:=G.b2)))
 exact KU (v:=.tuple #[.agg #[p1,p2,p3,p4],true]) results30 ⟨by simp [M.pick,e1.out,e2.out,e3.out,e4.out],Lv B⟩
theorem ki (a:Int) (w:World) (h:(M.LX a 4096).isSome=true) :
  cB 138 #[.agg #[M.pn a,M.pd a]] w (.tuple #[a,M.ins a (-409600000) 409600000]):=by
 obtain ⟨hok,d1,d2,hm,hp,g1,g2,n1,n2⟩:=iF h;have RQ:=IX h;obtain ⟨r1,r2⟩:=RQ
 have PF:=fun W=>vH (M.pn a) (M.pd a) W
 rw [hok] at PF;generalize M.pd a=d,M.pn a=n at *
 have hd0:¬ d=0:=ω
 have ht:(4096:Int).tmod d=0:=by rw [Int.tmod_eq_emod_of_nonneg ω];exact hm
 have hq:(4096:Int).tdiv d=4096 / d:=Int.tdiv_eq_ediv_of_nonneg ω
 have PI:=fun W=>eW a (-409600000) 409600000 W
 replace PF:=KO PF;replace PI:=KO PI;clear h hok;generalize 4096 / d=g at *;have hq2:=KO hq;have hp2:=KO hp;have hw1:=KO (show IntKind.i64.wrap g=g from IntWalk.i64_in _ ω);have hw2:=KO (show IntKind.i64.wrap (n*g)=a by rw [hp];exact IntWalk.i64_in _ ω);clear hq hp;have hm2:=KO hm;obtain ⟨wc,hw3,V,B⟩:=cJ w #[n,d] 32;have Ku:=V.box.c0;have Kv:=V.box.c1;go_enter func138,ntmps138
 go_upto_region 3 with (with_reducible refine G_ PF fun w4 hb4=>?_;replace ⟨V,B⟩:=Kt hb4 V B;(replace ⟨Ku,Kv⟩:=V.b2))
 refine be 7 [.is (.pointer (some ⟨w,0,none⟩)),.is n,.is (.pointer (some ⟨w,1,none⟩)),.is d,.is g,.is a,.is a] κ κ κ ⟨?_,?_,?_,?_,?_,?_,?_,trivial⟩ ?_
 all_goals try ((first | (refine Rg.b1 ?_;intro zZ w_ hB e) | (refine Rg.b2 ?_;intro zZ w_ hB e f));have kz:=aE hB V.box.c0;have kz:=aE hB V.box.c1;have ec:=Rg.ec zZ;(first | (go_simp;done) | (go_simp;first | done | (rw [hq2.out];first | done | rw [hw1.out] | (exact ⟨hd0,by rw [hw1.out]⟩)) | (simp only [hq2.out,hw1.out];done) | (simp [hq2.out,hw1.out,hd0];done);done) | (go_simp;first | done | (rw [hw2.out];done) | exact hw2.out;done)))
 intro vals wz hB hv hne;have Px:vals 6=.int .i64 a:=hv 6 δ;simp only [bD,Rg.fill,Act.put,Nat.reduceAdd];clear hv;simp only [Px];clear Px;unfold aU
 go_wp2_with (with_reducible refine Kw (PI.out _) ?_)
 go_ret2;exact ⟨rfl,p_ B hB⟩
theorem qY (a b:Int) (w:World) (h1:(M.LX a 4096).isSome=true) (h2:(M.LX b 4096).isSome=true) :
  cB 140 #[.agg #[M.pn a,M.pd a,M.pn b,M.pd b]] w (aJ a b):=by
 have P1:=KO fun W=>ki a W h1
 have P2:=KO fun W=>ki b W h2
 have hs:aJ a b=(M.ins a (-409600000) 409600000 && M.ins b (-409600000) 409600000 && decide (a<=b)):=by
  rw [Bool.eq_iff_iff];unfold aJ M.ins;exact Qg
 rw [hs];clear hs;generalize M.pd b=d2,M.pn b=n2,M.pd a=d1,M.pn a=n1 at *;obtain ⟨wc,hw3,V,B⟩:=cJ w #[n1,d1,n2,d2] 34;have Ku:=V.aI.c0;have Kv:=V.aI.c1;have Lk:=V.aI.c2;have Ll:=V.aI.c3;generalize M.ins b (-409600000) 409600000=i2,M.ins a (-409600000) 409600000=i1 at *
 by_cases hab:a<=b <;> cases i1 <;> cases i2
 all_goals
  go_enter func140,ntmps140
  go_wp2_with (first | (with_reducible refine G_ P1 fun w4 hb4=>?_;have V4:=V.keep hb4;have B4:=p_ B hb4;have y0:=V4.aI.c0;have y1:=V4.aI.c1;have y2:=V4.aI.c2;have y3:=V4.aI.c3) | (with_reducible refine G_ P2 fun w5 hb5=>?_;have B5:=p_ B4 hb5))
  all_goals
   go_ret;exact ⟨by first | rfl | (simp [hab];done) | (exact fm (by simp [hab];done)) | (exact fm (by simp <;> omega)),B5⟩
theorem fb (a b:Int) (w:World) (h1:(M.LX a 4096).isSome=true) (h2:(M.LX b 4096).isSome=true) :
  cB 91 #[.agg #[M.pn a,M.pd a,M.pn b,M.pd b]] w (.tuple #[a,b]):=by
 have P1:=KO fun W=>ki a W h1
 have P2:=KO fun W=>ki b W h2
 generalize M.ins b (-409600000) 409600000=i2,M.ins a (-409600000) 409600000=i1,M.pd b=d2,M.pn b=n2,M.pd a=d1,M.pn a=n1 at *;obtain ⟨wc,hw3,V,B⟩:=cJ w #[n1,d1,n2,d2] 34;have Ku:=V.aI.c0;have Kv:=V.aI.c1;have Lk:=V.aI.c2;have Ll:=V.aI.c3;go_enter func91,ntmps91
 go_wp2_with (first | (with_reducible refine G_ P1 fun w4 hb4=>?_;have V4:=V.keep hb4;have B4:=p_ B hb4;have y0:=V4.aI.c0;have y1:=V4.aI.c1;have y2:=V4.aI.c2;have y3:=V4.aI.c3) | (with_reducible refine G_ P2 fun w5 hb5=>?_;have B5:=p_ B4 hb5))
 go_ret2;exact ⟨rfl,B5⟩
end
section
open M
namespace M
theorem qW {p:Int} (h:1<=p):∀ k:Nat,1<=iO p k
 | 0=>by simp [iO]
 | k+1=>by
  have h1:=qW h k;have:=Int.mul_le_mul h1 h ω ω
  simpa [iO] using this
theorem Ar {p:Int} (h:1<=p) (k:Nat):iO p k<=iO p (k+1):=by
 have h1:=qW h k;have:=Int.mul_le_mul_of_nonneg_left h (show 0<=iO p k by omega);simp only [iO];omega
theorem ry {p:Int} (h:1<=p) {i j:Nat} (hij:i<=j):iO p i<=iO p j:=by
 induction j with
 | zero=>
      obtain rfl:i=0:=ω
      exact Int.le_refl _
 | succ j ih=>
 rcases Nat.lt_or_ge i (j+1) with q | q
 ·exact Int.le_trans (ih ω) (Ar h j)
 obtain rfl:i=j+1:=ω
 exact Int.le_refl _
def HA (p:Int) (d:Nat):Prop:=iO p d<=1000000000/\1000000000<iO p (d+1)
theorem HA.le {p:Int} {d j:Nat} (hp:1<=p) (h:HA p d) (hj:j<=d):iO p j<=1000000000:=Int.le_trans (ry hp hj) h.1
end M
end
section
open Go.RowKit open M
theorem vP (p:Int) (k:Nat) (w:World) (p1:1<=p) (hb:iO p k<=4000000000000000000) (hk:k<=1000) :
  cP 143 #[p,k] w (.int .i64 (iO p k)):=by
 go_enter func143,ntmps143
 go_wp2
 go_loop [5,7] (fun vo vi=>∃ j:Nat,j<=k/\vi=.int .i64 j/\vo=.int .i64 (iO p j)) (fun _ vi=>(k - (intOf vi).toNat))
 case atStart=>exact ⟨0,ω,rfl,rfl⟩
 case round=>
 obtain ⟨j,hj,rfl,rfl⟩:=hrel
 by_cases hlt:j<k
 ·have h1:=qW p1 j
  have h2:=ry p1 (show j+1<=k from hlt);have h3:iO p j*p<=4000000000000000000:=Int.le_trans h2 hb;have h4:0<=iO p j*p:=Int.mul_nonneg ω ω;go_wp2
  go_round
  case rel=>exact ⟨j+1,ω,ν,rfl⟩
  case measure=>simp [intOf];omega
 obtain rfl:j=k:=ω
 go_wp2;go_ret;exact ⟨rfl,rfl⟩
theorem sM (a b:Int) (w:World) :
  cP 93 #[a,b] w (.int .i64 (min a b)):=by
 by_cases h:a<b
 ·have h2:min a b=a:=ω
  rw [h2];go_enter func93,ntmps93
  go_wp2;go_ret;exact ⟨rfl,rfl⟩
 have h2:min a b=b:=ω
 rw [h2];go_enter func93,ntmps93
 go_wp2;go_ret;exact ⟨rfl,rfl⟩
end
section
open Go.RowKit open Gr M Rg Rw Wh
theorem YA {p:Prop} (h:p:=by
 rw [hs] at PG2;replace PG2:=KO PG2;go_enter func92,ntmps92
 go_wp2_with (first
  | (with_reducible refine G_ P1 fun w4 hb4=>?_;replace ⟨R,B⟩:=Kt hb4 R B;have F:=aG.new w4 #[p1,p2] 32;have b_:=bA w4 (.cells #[p1,p2] 32);replace ⟨R,B⟩:=Kt b_ R B;(replace ⟨D_,F_,I_,J_,B_,C_,KV,KW⟩:=R.LA);(replace ⟨Oy,Oz⟩:=F.b2))
  | (with_reducible refine G_ P2 fun w5 hb5=>?_;replace ⟨R,F,B⟩:=Ky hb5 R F B;have G:=aG.new w5 #[p3,p4] 32;have b_:=bA w5 (.cells #[p3,p4] 32);replace ⟨R,F,B⟩:=Ky b_ R F B;(replace ⟨D_,F_,I_,J_,B_,C_,KV,KW⟩:=R.LA);(replace ⟨Oy,Oz⟩:=F.b2);(replace ⟨Sj,Sk⟩:=G.b2);have O:=aG.new (w5.alloc (.cells #[p3,p4] 32)) #[p1,p2,p3,p4] 34;have b_:=bA (w5.alloc (.cells #[p3,p4] 32)) (.cells #[p1,p2,p3,p4] 34);replace ⟨R,F,G,B⟩:=Kl b_ R F G B;(rw [KQ] at O);have NP:=O.aI.c0;have NQ:=O.aI.c1;have NS:=O.aI.c2;have NT:=O.aI.c3;have D_:=R.aI.c0;have F_:=R.aI.c1;have I_:=R.aI.c2;have J_:=R.aI.c3;have B_:=R.aI.f0;have C_:=R.aI.f1;have KV:=R.aI.f2;have KW:=R.aI.f3)
  | (with_reducible refine G_ PG2 fun w6 hb6=>?_;replace ⟨R,F,G,O,B⟩:=Lp hb6 R F G O B;(replace ⟨D_,F_,I_,J_,B_,C_,KV,KW⟩:=R.LA);(replace ⟨Oy,Oz⟩:=F.b2);(replace ⟨Sj,Sk⟩:=G.b2);(replace ⟨NP,NQ,NS,NT⟩:=O.b4)))
 exact KU results92 ⟨rfl,Lv B⟩):p:=h
theorem YC {p:Prop} (h:p:=by
 go_enter func92,ntmps92
 go_wp2_with (first
  | (with_reducible refine G_ P1 fun w4 hb4=>?_;replace ⟨R,B⟩:=Kt hb4 R B;have F:=aG.new w4 #[p1,p2] 32;have b_:=bA w4 (.cells #[p1,p2] 32);replace ⟨R,B⟩:=Kt b_ R B;(replace ⟨D_,F_,I_,J_,B_,C_,KV,KW⟩:=R.LA);(replace ⟨Oy,Oz⟩:=F.b2))
  | (with_reducible refine G_ P2 fun w5 hb5=>?_;replace ⟨R,F,B⟩:=Ky hb5 R F B;have G:=aG.new w5 #[p3,p4] 32;have b_:=bA w5 (.cells #[p3,p4] 32);replace ⟨R,F,B⟩:=Ky b_ R F B;(replace ⟨D_,F_,I_,J_,B_,C_,KV,KW⟩:=R.LA);(replace ⟨Oy,Oz⟩:=F.b2);(replace ⟨Sj,Sk⟩:=G.b2);have O:=aG.new (w5.alloc (.cells #[p3,p4] 32)) #[p1,p2,p3,p4] 34;have b_:=bA (w5.alloc (.cells #[p3,p4] 32)) (.cells #[p1,p2,p3,p4] 34);replace ⟨R,F,G,B⟩:=Kl b_ R F G B;(rw [KQ] at O);have NP:=O.aI.c0;have NQ:=O.aI.c1;have NS:=O.aI.c2;have NT:=O.aI.c3;have D_:=R.aI.c0;have F_:=R.aI.c1;have I_:=R.aI.c2;have J_:=R.aI.c3;have B_:=R.aI.f0;have C_:=R.aI.f1;have KV:=R.aI.f2;have KW:=R.aI.f3))
 exact KU results92 ⟨rfl,Lv B⟩):p:=h
theorem M.JC {a b:Int} (h:(M.LX a 4096).isSome=false∨(M.LX b 4096).isSome=false):aJ a b=false:=by
 cases hs:aJ a b with
 | false=>rfl
 | true=>
 obtain ⟨h1,h2,h3⟩:=bM hs;rw [bC ω ω,bC ω ω] at h;simp at h
theorem jz (a b:Int) (w:World) (h1:-4000000000000000000<=a) (h2:a<=4000000000000000000) (h3:-4000000000000000000<=b) (h4:b<=4000000000000000000) :
  cB 92 #[a,b] w (.tuple #[.agg #[M.pick (aJ (a) (b)) (M.pn (a)),M.pick (aJ (a) (b)) (M.pd (a)),M.pick (aJ (a) (b)) (M.pn (b)),M.pick (aJ (a) (b)) (M.pd (b))],aJ (a) (b)]):=by
 have P1:=fun W=>vI a 4096 W h1 h2 ω ω ω
 have P2:=fun W=>vI b 4096 W h3 h4 ω ω ω
 have PG:=fun W (q1:(M.LX a 4096).isSome=true) (q2:(M.LX b 4096).isSome=true)=>qY a b W q1 q2
 have hno:=@JC a b;have e1:=KO (show M.pn a=M.fN (M.LX a 4096) from rfl);have e2:=KO (show M.pd a=M.fD (M.LX a 4096) from rfl);have e3:=KO (show M.pn b=M.fN (M.LX b 4096) from rfl);have e4:=KO (show M.pd b=M.fD (M.LX b 4096) from rfl);rw [e1.out,e2.out,e3.out,e4.out] at PG ⊢;generalize M.fD (M.LX b 4096)=p4,M.fN (M.LX b 4096)=p3,M.fD (M.LX a 4096)=p2,M.fN (M.LX a 4096)=p1,(M.LX b 4096).isSome=o2,(M.LX a 4096).isSome=o1 at *;replace P1:=KO P1;replace P2:=KO P2;obtain ⟨wc,hw3,R,B⟩:=cJ w #[(0:Int),(0:Int),(0:Int),(0:Int)] 34
 cases o1 with
 | false=>
  rw [hno (Or.inl rfl)];exact YC
 | true=>
 cases o2 with
 | false=>
  rw [hno (Or.inr rfl)];exact YC
 | true=>
 have PG2:=fun W=>PG W rfl rfl
 cases hs:aJ a b with
 | true=>
  exact YA
 | false=>
 exact YA
theorem Fm (a b c d:Int) (w:World) (hab:aJ a b=true) (hcd:aJ c d=true) :
  cB 48 #[.agg #[M.pn a,M.pd a,M.pn b,M.pd b],.agg #[M.pn c,M.pd c,M.pn d,M.pd d]] w (.tuple #[.agg #[M.pick (aJ (a+c) (b+d)) (M.pn (a+c)),M.pick (aJ (a+c) (b+d)) (M.pd (a+c)),M.pick (aJ (a+c) (b+d)) (M.pn (b+d)),M.pick (aJ (a+c) (b+d)) (M.pd (b+d))],aJ (a+c) (b+d)]):=by
 obtain ⟨ab,a1,b1⟩:=bM hab;obtain ⟨cd,c1,d1⟩:=bM hcd
 have E1:=fun W=>fb a b W (bC ω ω) (bC ω ω)
 have E2:=fun W=>fb c d W (bC ω ω) (bC ω ω)
 have PM:=fun W=>jz (a+c) (b+d) W ω ω ω ω
 generalize aJ (a+c) (b+d)=s,M.pick (aJ (a+c) (b+d)) (M.pd (b+d))=p4,M.pick (aJ (a+c) (b+d)) (M.pn (b+d))=p3,M.pick (aJ (a+c) (b+d)) (M.pd (a+c))=p2,M.pick (aJ (a+c) (b+d)) (M.pn (a+c))=p1 at *;replace PM:=KO PM;replace E1:=KO E1;replace E2:=KO E2;generalize hn1:M.pn a=n1 at *;generalize hd1:M.pd a=d1 at *;generalize hn2:M.pn b=n2 at *;generalize hd2:M.pd b=d2 at *;generalize hn3:M.pn c=n3 at *;generalize hd3:M.pd c=d3 at *;generalize W3:M.pn d=n4 at *;generalize hd4:M.pd d=d4 at *;obtain ⟨wc,hw3,V,U,R,B⟩:=dF w #[n1,d1,n2,d2] 34 #[n3,d3,n4,d4] 34 #[(0:Int),(0:Int),(0:Int),(0:Int)] 34;have Ku:=V.aI.c0;have Kv:=V.aI.c1;have Lk:=V.aI.c2;have Ll:=V.aI.c3;have Kz:=U.aI.c0;have K4:=U.aI.c1;have Lw:=U.aI.c2;have Lx:=U.aI.c3;have D_:=R.aI.c0;have F_:=R.aI.c1;have I_:=R.aI.c2;have J_:=R.aI.c3;go_enter func48,ntmps48
 go_wp2_with (first
  | (with_reducible refine G_ E1 fun w4 hb4=>?_;replace ⟨V,U,R,B⟩:=Kl hb4 V U R B;(replace ⟨Ku,Kv,Lk,Ll⟩:=V.b4);(replace ⟨Kz,K4,Lw,Lx⟩:=U.b4);(replace ⟨D_,F_,I_,J_,B_,C_,KV,KW⟩:=R.LA))
  | (with_reducible refine G_ E2 fun w5 hb5=>?_;replace ⟨V,U,R,B⟩:=Kl hb5 V U R B;(replace ⟨Ku,Kv,Lk,Ll⟩:=V.b4);(replace ⟨Kz,K4,Lw,Lx⟩:=U.b4);(replace ⟨D_,F_,I_,J_,B_,C_,KV,KW⟩:=R.LA))
  | (with_reducible refine G_ PM fun w6 hb6=>?_;replace ⟨V,U,R,B⟩:=Kl hb6 V U R B;(replace ⟨Ku,Kv,Lk,Ll⟩:=V.b4);(replace ⟨Kz,K4,Lw,Lx⟩:=U.b4);(replace ⟨D_,F_,I_,J_,B_,C_,KV,KW⟩:=R.LA)))
 exact KU results48 ⟨rfl,Lv B⟩
theorem Fq (a b c d:Int) (w:World) (hab:aJ a b=true) (hcd:aJ c d=true) :
  cB 121 #[.agg #[M.pn a,M.pd a,M.pn b,M.pd b],.agg #[M.pn c,M.pd c,M.pn d,M.pd d]] w (.tuple #[.agg #[M.pick (aJ (a - d) (b - c)) (M.pn (a - d)),M.pick (aJ (a - d) (b - c)) (M.pd (a - d)),M.pick (aJ (a - d) (b - c)) (M.pn (b - c)),M.pick (aJ (a - d) (b - c)) (M.pd (b - c))],aJ (a - d) (b - c)]):=by
 obtain ⟨ab,a1,b1⟩:=bM hab;obtain ⟨cd,c1,d1⟩:=bM hcd
 have E1:=fun W=>fb a b W (bC ω ω) (bC ω ω)
 have E2:=fun W=>fb c d W (bC ω ω) (bC ω ω)
 have PM:=fun W=>jz (a - d) (b - c) W ω ω ω ω
 generalize aJ (a - d) (b - c)=s,M.pick (aJ (a - d) (b - c)) (M.pd (b - c))=p4,M.pick (aJ (a - d) (b - c)) (M.pn (b - c))=p3,M.pick (aJ (a - d) (b - c)) (M.pd (a - d))=p2,M.pick (aJ (a - d) (b - c)) (M.pn (a - d))=p1 at *;replace PM:=KO PM;replace E1:=KO E1;replace E2:=KO E2;generalize hn1:M.pn a=n1 at *;generalize hd1:M.pd a=d1 at *;generalize hn2:M.pn b=n2 at *;generalize hd2:M.pd b=d2 at *;generalize hn3:M.pn c=n3 at *;generalize hd3:M.pd c=d3 at *;generalize W3:M.pn d=n4 at *;generalize hd4:M.pd d=d4 at *;obtain ⟨wc,hw3,V,U,R,B⟩:=dF w #[n1,d1,n2,d2] 34 #[n3,d3,n4,d4] 34 #[(0:Int),(0:Int),(0:Int),(0:Int)] 34;have Ku:=V.aI.c0;have Kv:=V.aI.c1;have Lk:=V.aI.c2;have Ll:=V.aI.c3;have Kz:=U.aI.c0;have K4:=U.aI.c1;have Lw:=U.aI.c2;have Lx:=U.aI.c3;have D_:=R.aI.c0;have F_:=R.aI.c1;have I_:=R.aI.c2;have J_:=R.aI.c3;go_enter func121,ntmps121
 go_wp2_with (first
  | (with_reducible refine G_ E1 fun w4 hb4=>?_;replace ⟨V,U,R,B⟩:=Kl hb4 V U R B;(replace ⟨Ku,Kv,Lk,Ll⟩:=V.b4);(replace ⟨Kz,K4,Lw,Lx⟩:=U.b4);(replace ⟨D_,F_,I_,J_,B_,C_,KV,KW⟩:=R.LA))
  | (with_reducible refine G_ E2 fun w5 hb5=>?_;replace ⟨V,U,R,B⟩:=Kl hb5 V U R B;(replace ⟨Ku,Kv,Lk,Ll⟩:=V.b4);(replace ⟨Kz,K4,Lw,Lx⟩:=U.b4);(replace ⟨D_,F_,I_,J_,B_,C_,KV,KW⟩:=R.LA))
  | (with_reducible refine G_ PM fun w6 hb6=>?_;replace ⟨V,U,R,B⟩:=Kl hb6 V U R B;(replace ⟨Ku,Kv,Lk,Ll⟩:=V.b4);(replace ⟨Kz,K4,Lw,Lx⟩:=U.b4);(replace ⟨D_,F_,I_,J_,B_,C_,KV,KW⟩:=R.LA)))
 exact KU results121 ⟨rfl,Lv B⟩
theorem Fr (a b c d:Int) (w:World) (hab:aJ a b=true) (hcd:aJ c d=true) :
  cB 150 #[.agg #[M.pn a,M.pd a,M.pn b,M.pd b],.agg #[M.pn c,M.pd c,M.pn d,M.pd d]] w true:=by
 obtain ⟨ab,a1,b1⟩:=bM hab;obtain ⟨cd,c1,d1⟩:=bM hcd
 have E1:=fun W=>qY a b W (bC ω ω) (bC ω ω)
 have E2:=fun W=>qY c d W (bC ω ω) (bC ω ω)
 rw [hab] at E1;rw [hcd] at E2;generalize M.pd d=d4,M.pn d=n4,M.pd c=d3,M.pn c=n3,M.pd b=d2,M.pn b=n2,M.pd a=d1,M.pn a=n1 at *;replace E1:=KO E1;replace E2:=KO E2;have U:=aG.new (w.alloc (.cells #[n1,d1,n2,d2] 34)) #[n3,d3,n4,d4] 34;rw [KQ] at U;have B:=((KS w w).alloc (KT _) (.cells #[n1,d1,n2,d2] 34)).alloc (by rw [KQ];omega) (.cells #[n3,d3,n4,d4] 34);go_enter func150,ntmps150
 go_wp2_with (first | (with_reducible refine G_ E1 fun w4 hb4=>?_;have U4:=U.keep hb4;have B4:=p_ B hb4;have y0:=U4.aI.c0;have y1:=U4.aI.c1;have y2:=U4.aI.c2;have y3:=U4.aI.c3) | (with_reducible refine G_ E2 fun w5 hb5=>?_;have B5:=p_ B4 hb5))
 go_ret;exact ⟨rfl,B5⟩
theorem so (a b c d:Int) (w:World) (hab:aJ a b=true) (hcd:aJ c d=true) :
  cB 103 #[.agg #[M.pn a,M.pd a,M.pn b,M.pd b],.agg #[M.pn c,M.pd c,M.pn d,M.pd d]] w (.tuple #[.agg #[M.pick (aJ (max a c) (min b d)) (M.pn (max a c)),M.pick (aJ (max a c) (min b d)) (M.pd (max a c)),M.pick (aJ (max a c) (min b d)) (M.pn (min b d)),M.pick (aJ (max a c) (min b d)) (M.pd (min b d))],aJ (max a c) (min b d)]):=by
 obtain ⟨ab,a1,b1⟩:=bM hab;obtain ⟨cd,c1,d1⟩:=bM hcd
 have E1:=fun W=>fb a b W (bC ω ω) (bC ω ω)
 have E2:=fun W=>fb c d W (bC ω ω) (bC ω ω)
 have PT:=KO fun W=>Fr a b c d W hab hcd
 have PX:=KO fun W=>ff a c W
 have PY:=KO fun W=>sM b d W
 have PM:=fun W=>jz (max a c) (min b d) W ω ω ω ω
 generalize aJ (max a c) (min b d)=s,M.pick (aJ (max a c) (min b d)) (M.pd (min b d))=p4,M.pick (aJ (max a c) (min b d)) (M.pn (min b d))=p3,M.pick (aJ (max a c) (min b d)) (M.pd (max a c))=p2,M.pick (aJ (max a c) (min b d)) (M.pn (max a c))=p1 at *;replace PM:=KO PM;replace E1:=KO E1;replace E2:=KO E2;generalize hn1:M.pn a=n1 at *;generalize hd1:M.pd a=d1 at *;generalize hn2:M.pn b=n2 at *;generalize hd2:M.pd b=d2 at *;generalize hn3:M.pn c=n3 at *;generalize hd3:M.pd c=d3 at *;generalize W3:M.pn d=n4 at *;generalize hd4:M.pd d=d4 at *;obtain ⟨wc,hw3,V,U,R,B⟩:=dF w #[n1,d1,n2,d2] 34 #[n3,d3,n4,d4] 34 #[(0:Int),(0:Int),(0:Int),(0:Int)] 34;have Ku:=V.aI.c0;have Kv:=V.aI.c1;have Lk:=V.aI.c2;have Ll:=V.aI.c3;have Kz:=U.aI.c0;have K4:=U.aI.c1;have Lw:=U.aI.c2;have Lx:=U.aI.c3;have D_:=R.aI.c0;have F_:=R.aI.c1;have I_:=R.aI.c2;have J_:=R.aI.c3;go_enter func103,ntmps103
 go_wp2_with (first
  | (with_reducible refine G_ PT fun w4 hb4=>?_;replace ⟨V,U,R,B⟩:=Kl hb4 V U R B;(replace ⟨Ku,Kv,Lk,Ll⟩:=V.b4);(replace ⟨Kz,K4,Lw,Lx⟩:=U.b4);(replace ⟨D_,F_,I_,J_,B_,C_,KV,KW⟩:=R.LA))
  | (with_reducible refine G_ E1 fun w5 hb5=>?_;replace ⟨V,U,R,B⟩:=Kl hb5 V U R B;(replace ⟨Ku,Kv,Lk,Ll⟩:=V.b4);(replace ⟨Kz,K4,Lw,Lx⟩:=U.b4);(replace ⟨D_,F_,I_,J_,B_,C_,KV,KW⟩:=R.LA))
  | (with_reducible refine G_ E2 fun w6 hb6=>?_;replace ⟨V,U,R,B⟩:=Kl hb6 V U R B;(replace ⟨Ku,Kv,Lk,Ll⟩:=V.b4);(replace ⟨Kz,K4,Lw,Lx⟩:=U.b4);(replace ⟨D_,F_,I_,J_,B_,C_,KV,KW⟩:=R.LA))
  | (with_reducible refine Kw (PX.out _) ?_)
  | (with_reducible refine Kw (PY.out _) ?_)
  | (with_reducible refine G_ PM fun w9 Kr=>?_;replace ⟨V,U,R,B⟩:=Kl Kr V U R B;(replace ⟨Ku,Kv,Lk,Ll⟩:=V.b4);(replace ⟨Kz,K4,Lw,Lx⟩:=U.b4);(replace ⟨D_,F_,I_,J_,B_,C_,KV,KW⟩:=R.LA)))
 exact KU results103 ⟨rfl,Lv B⟩
theorem Fp (a b c d:Int) (w:World) (hab:aJ a b=true) (hcd:aJ c d=true) :
  cB 49 #[.agg #[M.pn a,M.pd a,M.pn b,M.pd b],.agg #[M.pn c,M.pd c,M.pn d,M.pd d]] w (.tuple #[.agg #[M.pick (aJ (cO a b c d / 4096) (-(-cN a b c d / 4096))) (M.pn (cO a b c d / 4096)),M.pick (aJ (cO a b c d / 4096) (-(-cN a b c d / 4096))) (M.pd (cO a b c d / 4096)),M.pick (aJ (cO a b c d / 4096) (-(-cN a b c d / 4096))) (M.pn (-(-cN a b c d / 4096))),M.pick (aJ (cO a b c d / 4096) (-(-cN a b c d / 4096))) (M.pd (-(-cN a b c d / 4096)))],aJ (cO a b c d / 4096) (-(-cN a b c d / 4096))]):=by
 obtain ⟨ab,a1,b1⟩:=bM hab;obtain ⟨cd,c1,d1⟩:=bM hcd
 have E1:=fun W=>fb a b W (bC ω ω) (bC ω ω)
 have E2:=fun W=>fb c d W (bC ω ω) (bC ω ω)
 have q1:=aH (x:=a) (y:=c) (m:=1000000000) (n:=1000000000);have q2:=aH (x:=a) (y:=d) (m:=1000000000) (n:=1000000000);have q3:=aH (x:=b) (y:=c) (m:=1000000000) (n:=1000000000);have q4:=aH (x:=b) (y:=d) (m:=1000000000) (n:=1000000000);obtain ⟨t1,t2,t3,t4⟩:=Hl (a:=a) (b:=b) (c:=c) (d:=d) ω ω ω ω ω ω ω ω
 have Lb:min (min (a*c) (a*d)) (min (b*c) (b*d))=cO a b c d:=by unfold cO;omega
 have hma:max (max (a*c) (a*d)) (max (b*c) (b*d))=cN a b c d:=by unfold cN;omega
 have f1:=fE (a:=cO a b c d) (b:=4096) (k:=1000000000000000000) ω ω ω ω;have f2:=fE (a:=-cN a b c d) (b:=4096) (k:=1000000000000000000) ω ω ω ω
 have PX:=KO fun x y W=>ff x y W
 have PY:=KO fun x y W=>sM x y W
 have PD:=fun W=>qP (cO a b c d) 4096 W ω ω ω ω
 have PU:=fun W=>Dh (cN a b c d) 4096 W ω ω ω ω
 have PM:=fun W=>jz (cO a b c d / 4096) (-(-cN a b c d / 4096)) W ω ω ω ω
 generalize aJ (cO a b c d / 4096) (-(-cN a b c d / 4096))=s,M.pick (aJ (cO a b c d / 4096) (-(-cN a b c d / 4096))) (M.pd (-(-cN a b c d / 4096)))=p4,M.pick (aJ (cO a b c d / 4096) (-(-cN a b c d / 4096))) (M.pn (-(-cN a b c d / 4096)))=p3,M.pick (aJ (cO a b c d / 4096) (-(-cN a b c d / 4096))) (M.pd (cO a b c d / 4096))=p2,M.pick (aJ (cO a b c d / 4096) (-(-cN a b c d / 4096))) (M.pn (cO a b c d / 4096))=p1 at *;replace PM:=KO PM;replace E1:=KO E1;replace E2:=KO E2;generalize cN a b c d=ma,cO a b c d=mi,-(-cN a b c d / 4096)=hi,cO a b c d / 4096=lo at *
 have PD:=KO fun x W (h:x=mi)=>(h ▸ PD W:cP 95 #[x,(4096:Int)] W (.int .i64 lo))
 have PU:=KO fun x W (h:x=ma)=>(h ▸ PU W:cP 96 #[x,(4096:Int)] W (.int .i64 hi))
 replace Lb:=KO Lb;replace hma:=KO hma;generalize hn1:M.pn a=n1 at *;generalize hd1:M.pd a=d1 at *;generalize hn2:M.pn b=n2 at *;generalize hd2:M.pd b=d2 at *;generalize hn3:M.pn c=n3 at *;generalize hd3:M.pd c=d3 at *;generalize W3:M.pn d=n4 at *;generalize hd4:M.pd d=d4 at *;obtain ⟨wc,hw3,V,U,R,B⟩:=dF w #[n1,d1,n2,d2] 34 #[n3,d3,n4,d4] 34 #[(0:Int),(0:Int),(0:Int),(0:Int)] 34;have Ku:=V.aI.c0;have Kv:=V.aI.c1;have Lk:=V.aI.c2;have Ll:=V.aI.c3;have Kz:=U.aI.c0;have K4:=U.aI.c1;have Lw:=U.aI.c2;have Lx:=U.aI.c3;have D_:=R.aI.c0;have F_:=R.aI.c1;have I_:=R.aI.c2;have J_:=R.aI.c3;go_enter func49,ntmps49
 go_wp2_with (first
  | (with_reducible refine G_ E1 fun w4 hb4=>?_;replace ⟨V,U,R,B⟩:=Kl hb4 V U R B;(replace ⟨Ku,Kv,Lk,Ll⟩:=V.b4);(replace ⟨Kz,K4,Lw,Lx⟩:=U.b4);(replace ⟨D_,F_,I_,J_,B_,C_,KV,KW⟩:=R.LA))
  | (with_reducible refine G_ E2 fun w5 hb5=>?_;replace ⟨V,U,R,B⟩:=Kl hb5 V U R B;(replace ⟨Ku,Kv,Lk,Ll⟩:=V.b4);(replace ⟨Kz,K4,Lw,Lx⟩:=U.b4);(replace ⟨D_,F_,I_,J_,B_,C_,KV,KW⟩:=R.LA))
  | (with_reducible refine Kw (PX.out _ _ _) ?_)
  | (with_reducible refine Kw (PY.out _ _ _) ?_)
  | (with_reducible refine Kw (PD.out _ _ (by have:=Lb.out;omega)) ?_)
  | (with_reducible refine Kw (PU.out _ _ (by have:=hma.out;omega)) ?_)
  | (with_reducible refine G_ PM fun X4 LE=>?_;replace ⟨V,U,R,B⟩:=Kl LE V U R B;(replace ⟨Ku,Kv,Lk,Ll⟩:=V.b4);(replace ⟨Kz,K4,Lw,Lx⟩:=U.b4);(replace ⟨D_,F_,I_,J_,B_,C_,KV,KW⟩:=R.LA)))
 exact KU results49 ⟨rfl,Lv B⟩
theorem NF {p:Prop} (h:p:=by
 refine Rg.b1 ?_;intro zZ w_ hB e
 go_simp):p:=h
theorem Nm {p:Prop} (h:p:=by first | (go_simp;done) | (go_simp;omega)):p:=h
theorem Yc {p:Prop} (h:p:=by
 rw [ho] at PB;replace PB:=KO PB;go_enter func99,ntmps99
 go_wp2_with (with_reducible refine G_ PB fun w4 hb4=>?_;replace ⟨C,R,B⟩:=Ky hb4 C R B;(replace ⟨f_,j_⟩:=C.b2);(replace ⟨D_,F_,B_,C_⟩:=R.L_))
 exact KU results99 ⟨rfl,Pf B⟩):p:=h
namespace M
def hL (C:Nat) (n:Nat) (o:Out):Int:=match o with
 | .val x z=>max 0 (3*(fa (.val x z) - 1) - C)*4096 / p4 n
 | _=>0
def hH (C:Nat) (n:Nat) (o:Out):Int:=match o with
 | .val x z=>-(-((3*fa (.val x z)+C)*4096) / p4 n)
 | _=>0
theorem Jx {a b x z:Int} {o:Out} (h:nx a b o=.val x z):Wh.sz x 1000/\Wh.sz z 1000:=by
 cases o with
 | inf=>cases h
 | bad=>cases h
 | val u v=>
 unfold nx at h
 dsimp only at h
 split at h
 ·cases h
 split at h
 ·rename_i hok
  injection h with h1 h2
  subst h1 h2;exact qz (qK hok)
 cases h
theorem qx {a b X E x z:Int} (hX1:-10000<=X) (hX2:X<=10000) (hE1:0<=E) (hE2:E<=20) {n:Nat} (h:aZ a b X E n=.val x z):Wh.sz x 1000/\Wh.sz z 1000:=by
 unfold aZ at h
 split at h
 ·cases h
 cases n with
 | zero=>
  have Wj:0<=E*E/\E*E<=400:=⟨Int.mul_nonneg hE1 hE1,by have:=Int.mul_le_mul hE2 hE2 hE1 ω;omega⟩
  injection h with h1 h2
  subst h1 h2;exact ⟨aL (bi ω ω) ω,aL (bi ω ω) ω⟩
 | succ n=>exact Jx h
theorem sy {x z:Int} (h:Wh.sz x 1000/\Wh.sz z 1000):0<=fa (.val x z)/\fa (.val x z)<=14000:=by
 have h1:=rD h.1;have h2:=rD h.2
 show 0<=max ((Wh.bl x.natAbs:Nat):Int) ((Wh.bl z.natAbs:Nat):Int)/\max ((Wh.bl x.natAbs:Nat):Int) ((Wh.bl z.natAbs:Nat):Int)<=14000
 omega
theorem DU {C n:Nat} {B:Int} (hC:C<=60) (hn:n<=5) (h1:0<=B) (h2:B<=14000):aJ (max 0 (3*(B - 1) - C)*4096 / p4 n) (-(-((3*B+C)*4096) / p4 n))=true:=by
 have hp:=zO n hn;generalize p4 n=d at *;have q1:=fE (a:=max 0 (3*(B - 1) - C)*4096) (b:=d) (k:=300000000) ω ω ω ω;have q2:=fE (a:=-((3*B+C)*4096)) (b:=d) (k:=300000000) ω ω ω ω;have q3:max 0 (3*(B - 1) - C)*4096 / d<=(3*B+C)*4096 / d:=Int.ediv_le_ediv ω ω
 have q4:(3*B+C)*4096 / d<=-(-((3*B+C)*4096) / d):=by
  have e1:=Int.mul_ediv_add_emod ((3*B+C)*4096) d;have e2:=Int.emod_nonneg ((3*B+C)*4096) (by omega:d≠0);have e3:=Int.mul_ediv_add_emod (-((3*B+C)*4096)) d;have e4:=Int.emod_nonneg (-((3*B+C)*4096)) (by omega:d≠0);generalize -((3*B+C)*4096) / d=v,(3*B+C)*4096 / d=u at *
  rcases Int.lt_or_le (-v) u with h | h
  ·have:d*(u+v)≥d*1:=Int.mul_le_mul_of_nonneg_left ω ω
   rw [Int.mul_add] at this;omega
  exact h
 unfold aJ;exact Qg
theorem Jo {a b X E:Int} {C n:Nat} (hC:C<=60) (hn:n<=5) (hX1:-10000<=X) (hX2:X<=10000) (hE1:0<=E) (hE2:E<=20):aJ (hL C n (aZ a b X E n)) (hH C n (aZ a b X E n))=true:=by
 cases h:aZ a b X E n with
 | inf=>show aJ 0 0=true;decide
 | bad=>show aJ 0 0=true;decide
 | val x z=>
 have hb:=sy (qx hX1 hX2 hE1 hE2 h);exact DU hC hn hb.1 hb.2
end M
theorem uu (a b d:Int) (w:World) (h1:-100000000000<=a) (h2:a<=100000000000) (h3:-100000000000<=b) (h4:b<=100000000000) (h5:1<=d) (h6:d<=100000) :
  cB 146 #[a,b,d] w (.tuple #[.agg #[M.pick (aJ (a*4096 / d) (-(-(b*4096) / d))) (M.pn (a*4096 / d)),M.pick (aJ (a*4096 / d) (-(-(b*4096) / d))) (M.pd (a*4096 / d)),M.pick (aJ (a*4096 / d) (-(-(b*4096) / d))) (M.pn (-(-(b*4096) / d))),M.pick (aJ (a*4096 / d) (-(-(b*4096) / d))) (M.pd (-(-(b*4096) / d)))],aJ (a*4096 / d) (-(-(b*4096) / d))]):=by
 have P1:=fun W=>qP (a*4096) d W ω ω ω ω
 have P2:=fun W=>Dh (b*4096) d W ω ω ω ω
 have f1:=fE (a:=a*4096) (b:=d) (k:=1000000000000000) ω ω ω ω;have f2:=fE (a:=-(b*4096)) (b:=d) (k:=1000000000000000) ω ω ω ω
 have PM:=fun W=>jz (a*4096 / d) (-(-(b*4096) / d)) W ω ω ω ω
 generalize -(-(b*4096) / d)=hi,a*4096 / d=lo,aJ (a*4096 / d) (-(-(b*4096) / d))=s,M.pick (aJ (a*4096 / d) (-(-(b*4096) / d))) (M.pd (-(-(b*4096) / d)))=p4,M.pick (aJ (a*4096 / d) (-(-(b*4096) / d))) (M.pn (-(-(b*4096) / d)))=p3,M.pick (aJ (a*4096 / d) (-(-(b*4096) / d))) (M.pd (a*4096 / d))=p2,M.pick (aJ (a*4096 / d) (-(-(b*4096) / d))) (M.pn (a*4096 / d))=p1 at *;replace P1:=KO P1;replace P2:=KO P2;replace PM:=KO PM;have R:=aG.new w #[(0:Int),(0:Int),(0:Int),(0:Int)] 34;have B:=(KS w w).alloc (KT _) (.cells #[(0:Int),(0:Int),(0:Int),(0:Int)] 34);go_enter func146,ntmps146
 go_wp2_with (first
  | (with_reducible refine Kw (P1.out _) ?_)
  | (with_reducible refine Kw (P2.out _) ?_)
  | (with_reducible refine G_ PM fun w6 hb6=>?_;replace ⟨R,B⟩:=Kt hb6 R B;(replace ⟨D_,F_,I_,J_,B_,C_,KV,KW⟩:=R.LA)))
 exact KU results146 ⟨rfl,Lv B⟩
theorem qU (a b X Y E:Int) (n:Nat) (w:World) (hg:M.good a b=true) (hX1:-10000<=X) (hX2:X<=10000) (hE1:0<=E) (hE2:E<=20) (hn:n<=5) :
  cB 99 #[.agg #[a,b],.agg #[X,Y,E],.int .i64 (n:Int)] w (.tuple #[.agg #[M.hL (M.hC a b) n (aZ a b X E n),M.hH (M.hC a b) n (aZ a b X E n)],M.isOk (aZ a b X E n)]):=by
 have hin:=ae hg
 have PB:=fun W=>Ca a b X Y E n W hg hX1 hX2 hE1 hE2 hn
 have PC:=KO fun W=>lY a b W hin
 have hC:=rq hin
 have hsz:=fun x z (h:aZ a b X E n=.val x z)=>sy (qx hX1 hX2 hE1 hE2 h)
 have hp:=zO n hn
 have hip:M.p4 n=3*iO 4 n:=by
  match n,hn with
  | 0,_=>decide
  | 1,_=>decide
  | 2,_=>decide
  | 3,_=>decide
  | 4,_=>decide
  | 5,_=>decide
 have PP:=KO fun W=>vP 4 n W ω ω ω
 generalize M.hC a b=k,iO 4 n=ip at *;obtain ⟨wc,hw3,C,Q,R,B⟩:=dF w #[a,b] 24 #[X,Y,E] 47 #[(0:Int),(0:Int)] 72;have ⟨q0,q1,q2⟩:=Q.aM;have f_:=C.box.c0;have j_:=C.box.c1
 cases ho:aZ a b X E n with
 | inf=>
  exact Yc
 | bad=>
  exact Yc
 | val x z=>
 rw [ho] at PB;have hb:=hsz x z ho;have e1:M.hL k n (.val x z)=max 0 (3*(fa (.val x z) - 1) - k)*4096 / M.p4 n:=rfl;have e2:M.hH k n (.val x z)=-(-((3*fa (.val x z)+k)*4096) / M.p4 n):=rfl;rw [e1,e2];rw [show M.isInf (.val x z)=false from rfl,show M.isOk (.val x z)=true from rfl] at PB;rw [show M.isOk (.val x z)=true from rfl];generalize fa (.val x z)=bt at *;rw [hip];rw [hip] at hp
 have hm:max 0 (3*(bt - 1) - (k:Int))=max (3*(bt - 1) - (k:Int)) 0:=ω
 rw [hm]
 have F1:=fun W=>iN (max (3*(bt - 1) - (k:Int)) 0*4096) (3*ip) W ω ω ω ω
 have F2:=fun W=>iN (-((3*bt+(k:Int))*4096)) (3*ip) W ω ω ω ω
 have F2:=fun x W (h:x=-((3*bt+(k:Int))*4096))=>(by subst h;exact F2 W:cP 137 #[x,(3*ip:Int)] W (.int .i64 (-((3*bt+(k:Int))*4096) / (3*ip))))
 have F1:=fun x W (h:x=max (3*(bt - 1) - (k:Int)) 0*4096)=>(by subst h;exact F1 W:cP 137 #[x,(3*ip:Int)] W (.int .i64 (max (3*(bt - 1) - (k:Int)) 0*4096 / (3*ip))))
 have g2:=fE (a:=-((3*bt+(k:Int))*4096)) (b:=3*ip) (k:=1000000000000000) ω ω ω ω;generalize max (3*(bt - 1) - (k:Int)) 0*4096 / (3*ip)=lo at *;generalize -((3*bt+(k:Int))*4096) / (3*ip)=hi at *;obtain ⟨g2,g3⟩:=g2;obtain ⟨hb1,hb2⟩:=hb;obtain ⟨hp1,hp2⟩:=hp
 have hk2:(k:Int)<=60:=ω
 clear hm hip hC;replace F1:=KO F1;replace F2:=KO F2;replace PB:=KO PB;go_enter func99,ntmps99
 go_wp2_with (first
  | (with_reducible refine G_ PB fun w4 hb4=>?_;replace ⟨C,R,B⟩:=Ky hb4 C R B;(replace ⟨f_,j_⟩:=C.b2);(replace ⟨D_,F_,B_,C_⟩:=R.L_))
  | (with_reducible refine G_ PC fun w5 hb5=>?_;replace ⟨C,R,B⟩:=Ky hb5 C R B;(replace ⟨f_,j_⟩:=C.b2);(replace ⟨D_,F_,B_,C_⟩:=R.L_))
  | (with_reducible refine Kw (PP.out _) ?_)
  | (first | (with_reducible refine Kw (F1.out _ _ ω) ?_) | (with_reducible refine Kw (F2.out _ _ ω) ?_)))
 exact KU results99 ⟨rfl,Pf B⟩
theorem qE (a b X Y E:Int) (n:Nat) (w:World) (hg:M.good a b=true) (hX1:-10000<=X) (hX2:X<=10000) (hE1:0<=E) (hE2:E<=20) (hn:n<=5) :
  cB 102 #[.agg #[a,b],.agg #[X,Y,E],.int .i64 (n:Int)] w (.tuple #[.agg #[M.pick (M.isOk (aZ a b X E n)) (M.pn (M.hL (M.hC a b) n (aZ a b X E n))),M.pick (M.isOk (aZ a b X E n)) (M.pd (M.hL (M.hC a b) n (aZ a b X E n))),M.pick (M.isOk (aZ a b X E n)) (M.pn (M.hH (M.hC a b) n (aZ a b X E n))),M.pick (M.isOk (aZ a b X E n)) (M.pd (M.hH (M.hC a b) n (aZ a b X E n)))],M.isOk (aZ a b X E n)]):=by
 have hin:=ae hg
 have PB:=fun W=>xI a b X Y E n W hg hX1 hX2 hE1 hE2 hn
 have PC:=KO fun W=>tV a b W hin
 have hC:=rq hin;have hp:=zO n hn
 have PP:=KO fun W=>AY n W hn
 have PX:=KO fun x y W=>ff x y W
 have hsp:=fun B h1 h2=>DU (B:=B) hC hn h1 h2
 generalize M.hC a b=k at *;obtain ⟨wc,hw3,C,Q,R,B⟩:=dF w #[a,b] 24 #[X,Y,E] 47 #[(0:Int),(0:Int),(0:Int),(0:Int)] 34;have ⟨q0,q1,q2⟩:=Q.aM;have f_:=C.box.c0;have j_:=C.box.c1
 cases ho:aZ a b X E n with
 | inf=>
  rw [ho] at PB
  have PM:=fun W=>uu 0 0 1 W ω ω ω ω ω ω
  rw [show (0:Int)*4096 / 1=0 by decide,show -(-((0:Int)*4096) / 1)=0 by decide,show aJ 0 0=true by decide] at PM;rw [show M.hL k n .inf=0 from rfl,show M.hH k n .inf=0 from rfl,show M.isOk .inf=true from rfl];generalize M.pick true (M.pd 0)=p2,M.pick true (M.pn 0)=p1 at *;replace PB:=KO PB;replace PM:=KO PM;go_enter func102,ntmps102
  go_wp2_with (first
   | ((with_reducible refine (PB.out _).mono ?_);rintro e w4 ⟨v4,en,rfl,Ks,hb4⟩;obtain ⟨rfl,A4,l4,c4,rfl⟩:=Ks;replace ⟨C,R,B⟩:=Ky hb4 C R B;(replace ⟨f_,j_⟩:=C.b2);(replace ⟨D_,F_,I_,J_,B_,C_,KV,KW⟩:=R.LA))
   | (with_reducible refine G_ PM fun w5 hb5=>?_;replace ⟨C,R,B⟩:=Ky hb5 C R B;(replace ⟨f_,j_⟩:=C.b2);(replace ⟨D_,F_,I_,J_,B_,C_,KV,KW⟩:=R.LA)))
  exact KU results102 ⟨rfl,Lv B⟩
 | bad=>
  rw [ho] at PB;rw [show M.isOk .bad=false from rfl];replace PB:=KO PB;go_enter func102,ntmps102
  go_wp2_with ((with_reducible refine (PB.out _).mono ?_);rintro e w4 ⟨v4,en,rfl,Ks,hb4⟩;obtain ⟨rfl,A4,l4,c4,rfl,hl4⟩:=Ks;(have hl5:(l4:Int)<=n:=by omega);replace ⟨C,R,B⟩:=Ky hb4 C R B;(replace ⟨f_,j_⟩:=C.b2);(replace ⟨D_,F_,I_,J_,B_,C_,KV,KW⟩:=R.LA))
  exact KU results102 ⟨rfl,Lv B⟩
 | val x z=>
 rw [ho] at PB;have hb:=sy (qx hX1 hX2 hE1 hE2 ho);have e1:M.hL k n (.val x z)=max 0 (3*(fa (.val x z) - 1) - k)*4096 / M.p4 n:=rfl;have e2:M.hH k n (.val x z)=-(-((3*fa (.val x z)+k)*4096) / M.p4 n):=rfl;rw [e1,e2,show M.isOk (.val x z)=true from rfl];have hs:=hsp _ hb.1 hb.2
 have PD:=KO fun (s r:Bool) v v' W i j (h1:aF W i v (Wh.a_ x.natAbs)) (h2:aF W j v' (Wh.a_ z.natAbs)) (hx:Wh.sz x 1000) (hz:Wh.sz z 1000) (hs:s=decide (x<0)) (hr:r=decide (z<0))=>(hs ▸ hr ▸ FE x z v v' W i j h1 h2 (aR.2 (aL hx ω)) (aR.2 (aL hz ω)) (Nat.le_trans (rD hx) ω) (Nat.le_trans (rD hz) ω):cB 147 #[.agg #[s,v,r,v']] W (.int .i64 (fa (.val x z))))
 generalize fa (.val x z)=bt at *
 have PM:=fun W=>uu (max 0 (3*(bt - 1) - (k:Int))) (3*bt+(k:Int)) (M.p4 n) W ω ω ω ω ω ω
 rw [hs] at PM;generalize M.pick true (M.pn (max 0 (3*(bt - 1) - (k:Int))*4096 / M.p4 n))=p1 at *;generalize M.pick true (M.pd (max 0 (3*(bt - 1) - (k:Int))*4096 / M.p4 n))=p2 at *;generalize M.pick true (M.pn (-(-((3*bt+(k:Int))*4096) / M.p4 n)))=p3 at *;generalize M.pick true (M.pd (-(-((3*bt+(k:Int))*4096) / M.p4 n)))=p4 at *;obtain ⟨hb1,hb2⟩:=hb
 have hk2:(k:Int)<=60:=ω
 have PM:=KO fun x W (h:x=max 0 (3*(bt - 1) - (k:Int)))=>(by subst h;exact PM W:cB 146 #[x,(3*bt+(k:Int):Int),M.p4 n] W (.tuple #[.agg #[p1,p2,p3,p4],true]))
 clear hs hC hp;generalize M.p4 n=pp at *;replace PB:=KO PB;go_enter func102,ntmps102
 go_upto_region 6 with ((with_reducible refine (PB.out _).mono ?_);rintro e w4 ⟨v4,en,rfl,Ks,hb4⟩;obtain ⟨rfl,zx,zz,g,cap,s,av,lv,cv,r,bv,mv,dv,rfl,TV,TX,TY,TZ,hss,hrr,ox,oz⟩:=Ks;have ox:=KO ox;have oz:=KO oz;have zx:=KO zx;have zz:=KO zz;replace ⟨C,R,B⟩:=Ky hb4 C R B;(replace ⟨f_,j_⟩:=C.b2);(replace ⟨D_,F_,I_,J_,B_,C_,KV,KW⟩:=R.LA))
 refine be 9 [.is (.slice (some ⟨g,0,none⟩) (n+1) cap),.is (.int .i64 (n:Int)),.is (.pointer (some ⟨g,n*4,none⟩)),.is (.agg #[s,.slice av lv cv,r,.slice bv mv dv]),.is bt,.is (.agg #[a,b]),.is (.int .i64 (k:Int)),.is bt,.is (.int .i64 (k:Int))] κ κ κ ⟨?_,?_,?_,?_,?_,?_,?_,?_,?_,trivial⟩ ?_
 ·exact NF
 ·exact NF
 ·refine Rg.b2 ?_;intro zZ w_ hB e f
  have NB:(n:Int)<((n+1:Nat):Int):=ω
  have hlt2_:n<n+1:=ω
  exact Nm
 ·refine Rg.b1 ?_;intro zZ w_ hB e
  have k0:=aE hB TV;have k1:=aE hB TX;have k2:=aE hB TY;have k3:=aE hB TZ
  first | (go_simp;done)
 ·refine Rg.o1 ?_;intro zZ w_ hB e
  have ef:=Rg.ef zZ;exact bO rfl γ (PD.out s r _ _ _ _ _ (aF.below ox.out hB) (aF.below oz.out hB) zx.out zz.out hss.out hrr.out)
 ·refine Rg.b1 ?_;intro zZ w_ hB e
  have k0:=aE hB C.box.c0;have k1:=aE hB C.box.c1;go_simp
 ·exact Pi
 ·exact NF
 ·exact NF
 intro vals wz hB hv hne;have Mi:vals 7=.int .i64 bt:=hv 7 δ;have Od:vals 8=.int .i64 (k:Int):=hv 8 δ;simp only [bD,Rg.fill,Act.put,Nat.reduceAdd];simp only [Mi,Od];have C2:=C.keep hB;have R2:=R.keep hB;have B2:=p_ B hB;unfold aU;have ⟨y0,y1,y2,y3,x0,x1,x2,x3,_⟩:=R2.aI
 go_wp2_with (first
  | (with_reducible refine Kw (PX.out _ _ _) ?_)
  | (with_reducible refine Kw (PP.out _) ?_)
  | (with_reducible refine Km (PM.out _ _ ω) fun w7 KY=>?_;replace ⟨R2,B2⟩:=Kt KY R2 B2;(replace ⟨R2_c0,R2_c1,R2_c2,R2_c3,R2_f0,R2_f1,R2_f2,R2_f3⟩:=R2.LA)))
 exact KU results102 ⟨rfl,Lv B2⟩
end
section
open Go Go.RowKit open M Rg
namespace Rg
variable {P:Program} {Q:Exit->Act->World->Prop}
def Val.pure:Val->Bool
 | .is _=>true
 | .num _=>true
 | .such _=>true
 | _=>false
theorem Val.fT {V:Val} (h:V.pure=true) {u:Value} {w w':World} (hu:V.ok u w):V.ok u w':=by
 cases V with
 | is _=>exact hu
 | num _=>exact hu
 | such _=>exact hu
 | _=>cases h
def CC (P:Program) (ops:Array Oper) (Q:Exit->Act->World->Prop) (a0:Act) (T:List Val) (J:World->Prop) (k0:Nat):List Oper->Nat->Prop
 | [],_=>True
 | o
   :: os,k=>(∀ (a:Act) (w:World),J w->(∀ t ∈ o.looksAt ops,sp ops a0 T o a w t)->
   if k=k0 then Region.wanted o (yielded ops a.tmps)=true/\o.wp P a w (fun a' w'=>(∃ v,a'=a.put o.dst v)/\J w'/\∀ v,(LS T k).ok v w') Q else Does P ops Q (LS T k) o a w)/\CC P ops Q a0 T J k0 os (k+1)
theorem EO {ops:Array Oper} {a0:Act} {T:List Val} {J:World->Prop} {k0:Nat} (hJ:∀ w w',J w->Below w w w'->J w') (hp:∀ j,j≠k0->(LS T j).pure=true):∀ (os:List Oper) (k:Nat),CC P ops Q a0 T J k0 os k->xA P Q .any ops J (fun i v w=>(LS T i).ok v w) a0 os k
 | [],_,_=>trivial
 | o :: os,k,h=>by
  refine ⟨fun a w vals hS hv hr=>?_,EO hJ hp os (k+1) h.2⟩
  have h1:=h.1 a w hS (fun t ht=>by
   have:=hr t ht;unfold rd at this;unfold sp
   split
   ·exact ZG
   rename_i he
   rw [he] at this
   exact this)
  unfold H7
  split at h1
  ·rename_i hk
   rw [if_pos h1.1];refine Oper.wp_mono ?_ h1.2;rintro a' w' ⟨⟨v,e⟩,h2,h3⟩;refine ⟨v,e,h3 v,h2,fun j u hu=>?_⟩
   by_cases hj:j=k0
   ·subst hj
    subst hk;exact h3 u
   exact Val.fT (hp j hj) hu
  unfold Does at h1
  split
  ·rename_i hw
   rw [if_pos hw] at h1;refine Oper.wp_mono ?_ h1;rintro a' w' ⟨v,e1,e2,e3⟩;exact ⟨v,e1,e2,hJ _ _ hS e3,fun j u hu=>Val.keep e3 _ _ hu⟩
  rename_i hw
  rw [if_neg hw] at h1;exact h1
theorem Hn {id:Nat} {ops:Array Oper} {a0:Act} {w:World} (k0:Nat) (T:List Val) (J:World->Prop) (hm:P.follows .mixedOrders=true) (hok:eo .any ops a0.tmps.size=true)
  (hJ:∀ w w',J w->Below w w w'->J w') (hp:∀ j,j≠k0->(LS T j).pure=true) (h0:J w)
  (hR:CC P ops Q a0 T J k0 ops.toList 0)
  (hF:∀ (vals:Nat->Value) (w':World),J w'->(∀ i,i<ops.size->(LS T i).ok (vals i) w')->Q .normal (fill (fun _=>true) vals ops.toList 0 a0) w'):(Code.region id ops true).wp P Q a0 w:=
 region J (fun i v w'=>(LS T i).ok v w') hm hok (hJ _ _ h0 ((KS _ w).drew)) (EO hJ hp _ _ hR) hF
end Rg
end
section
open Go.RowKit open Gr M Rg Rw Wh
theorem X7 {p:Prop} (h:p:=by
 generalize hbk:M.bL a b X E k=bl at *;generalize Pq:M.bH a b X E k=bh at *;replace hbk:=KO hbk;replace Pq:=KO Pq;refine Hn 7 [.is (.agg #[bl,bh]),.is (.int .i64 (k:Int)),.is true,.is true,.is (.agg #[bl,bh]),.is (aJ bl bh),.is (aJ bl bh),.at (fun _ W=>aG W (w.heap.size+1+1) 72 #[bl,bh]),.is (.int .i64 (k:Int)),.is (aJ bl bh)] (fun W=>aG W w4 72 #[bl,bh]/\(∃ u v,aG W (w.heap.size+1+1) 72 #[u,v])/\Below w w W) κ κ ?_ (fun j hj=>match j,hj with | 0,hj=>rfl | 1,hj=>rfl | 2,hj=>rfl | 3,hj=>rfl | 4,hj=>rfl | 5,hj=>rfl | 6,hj=>rfl | 7,hj=>absurd rfl hj | 8,hj=>rfl | 9,hj=>rfl | n+10,_=>rfl) ?_ ⟨?_,?_,?_,?_,?_,?_,?_,?_,?_,?_,trivial⟩ ?_
 ·exact fun W W_ h hb=>⟨h.1.keep hb,⟨_,_,h.2.1.choose_spec.choose_spec.keep hb⟩,h.2.2.trans (hb.mono h.2.2.size)⟩
 ·exact ⟨T,⟨_,_,R⟩,B⟩
 ·intro zZ w_ hJ hr
  rw [if_neg δ];have e7:zZ.tmps[7]?=some (.pointer (some ⟨w4,0,none⟩)):=hr 7 δ;have k0:=hJ.1.box.c0;have k1:=hJ.1.box.c1;exact aS rfl γ
 ·intro zZ w_ hJ hr
  rw [if_neg δ];have e9:zZ.tmps[9]?=some (.int .i64 (k:Int)):=hr 9 δ;exact aS rfl γ
 ·intro zZ w_ hJ hr
  rw [if_neg δ];have e8:zZ.tmps[8]?=some (.bool true):=hr 8 δ;exact aS rfl γ
 ·intro zZ w_ hJ hr
  rw [if_neg δ];have e37:=Rg.A_ (hr 37 δ);exact aS rfl γ
 ·intro zZ w_ hJ hr
  rw [if_neg δ];have e7:zZ.tmps[7]?=some (.pointer (some ⟨w4,0,none⟩)):=hr 7 δ;have e38:=Rg.A_ (hr 38 δ);have k0:=hJ.1.box.c0;have k1:=hJ.1.box.c1;exact aS (cR (j:=3) (b:=true) rfl (Rg.L8 rfl e38)) γ
 ·intro zZ w_ hJ hr
  rw [if_neg δ];have e38:=Rg.A_ (hr 38 δ);have e39:=Rg.A_ (hr 39 δ);have ef:=Rg.ef zZ;exact bO (cR (j:=3) (b:=true) rfl (Rg.L8 rfl e38)) γ (PV.out _)
 ·intro zZ w_ hJ hr
  rw [if_neg δ];have e38:=Rg.A_ (hr 38 δ);have e40:=Rg.A_ (hr 40 δ);have ec:=Rg.ec zZ;exact aS rfl (by first | (go_simp;done))
 ·intro zZ w_ hJ hr
  rw [if_pos rfl];have e4:zZ.tmps[4]?=some (.pointer (some ⟨w.heap.size+1+1,0,none⟩)):=hr 4 δ;have e35:=Rg.A_ (hr 35 δ);obtain ⟨hJ1,⟨u_,v_,hJ2⟩,hJ3⟩:=hJ;have e35:zZ.tmps[35]?=some (.agg #[bl,bh]):=Rg.A_ (hr 35 δ);have e4:zZ.tmps[4]?=some (.pointer (some ⟨w.heap.size+1+1,0,none⟩)):=hr 4 δ;have ⟨y0,y1,x0,x1,_⟩:=hJ2.box;refine ⟨rfl,?_⟩;unfold Oper.wp;go_simp
  exact ⟨⟨hJ1.dE (show w4.heap.size≠w.heap.size+1+1 by omega) _ _,⟨_,_,aG.set2 hJ2 _ _⟩,gT hJ3 ω _ _⟩,fun _ _ hb=>(aG.set2 hJ2 _ _).keep hb⟩
 ·intro zZ w_ hJ hr
  rw [if_neg δ];have e36:=Rg.A_ (hr 36 δ);exact aS rfl γ
 ·intro zZ w_ hJ hr
  rw [if_neg δ];have e41:=Rg.A_ (hr 41 δ);exact aS rfl γ
 intro vals wz hJ2 hv;have Od:vals 8=.int .i64 (k:Int):=hv 8 δ;have MX:vals 9=.bool (aJ bl bh):=hv 9 δ;have hst:=hv 7 δ;simp only [bD,Rg.fill,Act.put,Nat.reduceAdd];simp only [Od,MX];have ⟨y0,y1,x0,x1,_⟩:=aG.box (cX hst);have B2:=hJ2.2.2;go_wp2;exact KU (v:=.tuple #[.agg #[bl,bh],.int .i64 (k:Int),aJ bl bh]) results51 ⟨by rw [Pp.out,RL.out,hbk.out,Pq.out],B2⟩):p:=h
namespace M
def bL (a b X E:Int):Nat->Int
 | 0=>hL (hC a b) 0 (aZ a b X E 0)
 | k+1=>max (bL a b X E k) (hL (hC a b) (k+1) (aZ a b X E (k+1)))
def bH (a b X E:Int):Nat->Int
 | 0=>hH (hC a b) 0 (aZ a b X E 0)
 | k+1=>min (bH a b X E k) (hH (hC a b) (k+1) (aZ a b X E (k+1)))
def Og (a b X E:Int):Nat->Nat->Nat
 | 0,k=>k
 | f+1,k=>if isOk (aZ a b X E (k+1))=true then Og a b X E f (k+1) else k
def bN (a b X E:Int):Nat:=Og a b X E 5 0
def Lm (a b X E:Int):Bool:=aJ (bL a b X E (bN a b X E)) (bH a b X E (bN a b X E))
theorem CV {a b X E:Int}:∀ f k:Nat,k<=Og a b X E f k
 | 0,_=>KT _
 | f+1,k=>by
  unfold Og
  split
  ·exact Nat.le_of_succ_le (CV f (k+1))
  exact KT _
theorem CW {a b X E:Int}:∀ f k:Nat,Og a b X E f k<=k+f
 | 0,_=>KT _
 | f+1,k=>by
  unfold Og
  split
  ·have:=CW (a:=a) (b:=b) (X:=X) (E:=E) f (k+1);omega
  omega
theorem JY {a b X E:Int}:bN a b X E<=5:=CW 5 0
theorem HX {a b X E:Int}:isOk (aZ a b X E 0)=true:=by
 unfold aZ
 split <;> rfl
theorem DT {a b X E:Int} {n:Nat} (hin:bK a b=true) (hn:n<=5) (hX1:-10000<=X) (hX2:X<=10000) (hE1:0<=E) (hE2:E<=20):-409600000<=hL (hC a b) n (aZ a b X E n)/\hL (hC a b) n (aZ a b X E n)<=409600000/\-409600000<=hH (hC a b) n (aZ a b X E n)/\hH (hC a b) n (aZ a b X E n)<=409600000:=by
 have:=bM (Jo (a:=a) (b:=b) (C:=hC a b) (rq hin) hn hX1 hX2 hE1 hE2);omega
theorem IE {a b X E:Int} (hin:bK a b=true) (hX1:-10000<=X) (hX2:X<=10000) (hE1:0<=E) (hE2:E<=20):∀ k:Nat,k<=5->-409600000<=bL a b X E k/\bL a b X E k<=409600000/\-409600000<=bH a b X E k/\bH a b X E k<=409600000
 | 0,h=>DT hin h hX1 hX2 hE1 hE2
 | k+1,h=>by
  have h1:=IE hin hX1 hX2 hE1 hE2 k ω;have h2:=DT (n:=k+1) hin h hX1 hX2 hE1 hE2;unfold bL bH;omega
theorem xD {a b X E:Int} {k:Nat}:∀ n:Nat,k<=n->bL a b X E k<=bL a b X E n/\bH a b X E n<=bH a b X E k
 | 0,h=>by
        obtain rfl:k=0:=ω
        exact ⟨Int.le_refl _,Int.le_refl _⟩
 | n+1,h=>by
  by_cases e:k=n+1
  ·subst e;exact ⟨Int.le_refl _,Int.le_refl _⟩
  have:=xD (a:=a) (b:=b) (X:=X) (E:=E) (k:=k) n ω;have e1:bL a b X E (n+1)=max (bL a b X E n) (hL (hC a b) (n+1) (aZ a b X E (n+1))):=rfl;have e2:bH a b X E (n+1)=min (bH a b X E n) (hH (hC a b) (n+1) (aZ a b X E (n+1))):=rfl;omega
theorem Ja {a b X E:Int} (hin:bK a b=true) (hX1:-10000<=X) (hX2:X<=10000) (hE1:0<=E) (hE2:E<=20) {k:Nat} (hk:k<=bN a b X E) (h:aJ (bL a b X E k) (bH a b X E k)=false):Lm a b X E=false:=by
 cases hb:Lm a b X E with
 | false=>rfl
 | true=>
 have hN:=JY (a:=a) (b:=b) (X:=X) (E:=E);have h1:=bM hb;have h2:=xD (a:=a) (b:=b) (X:=X) (E:=E) _ hk;have h3:=IE hin hX1 hX2 hE1 hE2 k ω
 exfalso
 have:aJ (bL a b X E k) (bH a b X E k)=true:=by
  unfold aJ;exact Qg
 rw [this] at h;cases h
end M
theorem mG (a b X Y E:Int) (w:World) (hg:M.good a b=true) (hX1:-10000<=X) (hX2:X<=10000) (hE1:0<=E) (hE2:E<=20) :
  cB 51 #[.agg #[a,b],.agg #[X,Y,E]] w (.tuple #[.agg #[M.bL a b X E (M.bN a b X E),M.bH a b X E (M.bN a b X E)],.int .i64 ((M.bN a b X E:Nat):Int),M.Lm a b X E]):=by
 have P0:=fun W=>qU a b X Y E 0 W hg hX1 hX2 hE1 hE2 ω
 rw [HX,show ((0:Nat):Int)=0 from rfl] at P0
 have PK:=KO fun (k:Nat) W (hk:k<=5)=>qU a b X Y E k W hg hX1 hX2 hE1 hE2 hk
 have P0:=KO P0;have hL0:=KO (show M.hL (M.hC a b) 0 (aZ a b X E 0)=M.bL a b X E 0 from rfl);have hH0:=KO (show M.hH (M.hC a b) 0 (aZ a b X E 0)=M.bH a b X E 0 from rfl);have hin:=ae hg
 have hbd:=KO fun k hk=>DT (a:=a) (b:=b) (X:=X) (E:=E) (n:=k) hin hk hX1 hX2 hE1 hE2
 have hbb:=KO fun k hk=>IE (a:=a) (b:=b) (X:=X) (E:=E) hin hX1 hX2 hE1 hE2 k hk
 clear hg hin;obtain ⟨wc,hw3,C,Q,R,B⟩:=dF w #[a,b] 24 #[X,Y,E] 47 #[(0:Int),(0:Int)] 72;have ⟨q0,q1,q2⟩:=Q.aM;have f_:=C.box.c0;have j_:=C.box.c1;generalize hu0:M.hL (M.hC a b) 0 (aZ a b X E 0)=u0 at *;generalize hv0:M.hH (M.hC a b) 0 (aZ a b X E 0)=v0 at *;go_enter func51,ntmps51
 go_wp2_with (with_reducible refine G_ P0 fun w4 hb4=>?_;replace ⟨C,R,B,Q⟩:=Kl hb4 C R B Q;have VU:=KO R.lt;replace Q:=Q.alloc (.cells #[u0,v0] 72);have T:=aG.new w4 #[u0,v0] 72;have b_:=bA w4 (.cells #[u0,v0] 72);replace ⟨C,R,B⟩:=Ky b_ C R B;(replace ⟨f_,j_⟩:=C.b2);(replace ⟨D_,F_,B_,C_⟩:=R.L_);(replace ⟨LI,LJ⟩:=T.b2))
 go_loopw [9] (fun vi wr=>∃ k:Nat,k<=5/\vi=.int .i64 k/\Hid (M.Og a b X E (5 - k) k=M.bN a b X E)/\aG wr w4 72 #[M.bL a b X E k,M.bH a b X E k]/\aG wr w 24 #[a,b]/\aG wr (w.heap.size+1) 47 #[X,Y,E]/\aG wr (w.heap.size+1+1) 72 #[(0:Int),(0:Int)]/\Below w w wr) (fun vi _=>5 - (intOf vi).toNat)
 case atStart=>exact ⟨0,ω,rfl,KO rfl,by rw [←hL0.out,←hH0.out];exact T,C,Q,R,B⟩
 case round=>
 clear C Q R B T P0 hL0 hH0 f_ j_ D_ F_ B_ C_ LI LJ q0 q1 q2;have hR9:=VU.out;obtain ⟨k,hk,rfl,hN,T,C,Q,R,B⟩:=hrel;have LI:=T.box.c0;have LJ:=T.box.c1;have OD:=T.box.f0;have OE:=T.box.f1;have f_:=C.box.c0;have j_:=C.box.c1;have D_:=R.box.c0;have F_:=R.box.c1;have B_:=R.box.f0;have C_:=R.box.f1;have ⟨q0,q1,q2⟩:=Q.aM
 by_cases hlt:k<5
 ·have P1:=fun W=>PK.out (k+1) W ω
  have hNs:M.Og a b X E (5 - k) k=if M.isOk (aZ a b X E (k+1))=true then M.Og a b X E (5 - (k+1)) (k+1) else k:=by
   rw [show 5 - k=(5 - (k+1))+1 by omega];rfl
  have eL:M.bL a b X E (k+1)=max (M.bL a b X E k) (M.hL (M.hC a b) (k+1) (aZ a b X E (k+1))):=rfl;have eH:M.bH a b X E (k+1)=min (M.bH a b X E k) (M.hH (M.hC a b) (k+1) (aZ a b X E (k+1))):=rfl;generalize M.hH (M.hC a b) (k+1) (aZ a b X E (k+1))=hh,M.hL (M.hC a b) (k+1) (aZ a b X E (k+1))=hl at *
  have PC:=KO fun W=>Cn (M.bL a b X E k) (M.bH a b X E k) hl hh W
  cases hok:M.isOk (aZ a b X E (k+1)) with
  | false=>
   rw [hok,if_neg δ] at hNs;have Pp:=KO (show M.bN a b X E=k by rw [←hN.out,hNs]);rw [hok] at P1
   have PV:=KO fun W=>my (M.bL a b X E k) (M.bH a b X E k) W
   have RL:=KO (show M.Lm a b X E=aJ (M.bL a b X E k) (M.bH a b X E k) by unfold M.Lm;rw [Pp.out]);have P1:=KO P1;have hk1:=KO (show ((k+1:Nat):Int)=(k:Int)+1 by omega);have P1:=P1.out;rw [hk1.out] at P1;have P1:=KO P1
   go_upto_region 8 with (with_reducible refine G_ P1 fun w5 hb5=>?_;replace ⟨C,R,T,B,Q⟩:=Lp hb5 C R T B Q;replace Q:=Q.alloc (.cells #[hl,hh] 72);have S:=aG.new w5 #[hl,hh] 72;have b_:=bA w5 (.cells #[hl,hh] 72);replace ⟨C,R,T,B⟩:=Kl b_ C R T B;(replace ⟨f_,j_⟩:=C.b2);(replace ⟨D_,F_,B_,C_⟩:=R.L_);(replace ⟨LI,LJ⟩:=T.b2);(replace ⟨MZ,Ma⟩:=S.b2))
   generalize w5.alloc (.cells #[hl,hh] 72)=wd at *;exact X7
  | true=>
  rw [hok,if_pos rfl] at hNs;have Wp:=KO (hNs.symm.trans hN.out);rw [hok] at P1;have eL:=KO eL;have eH:=KO eH;have hk1:=KO (show ((k+1:Nat):Int)=(k:Int)+1 by omega);rw [hk1.out] at P1;have P1:=KO P1;generalize hbk:M.bL a b X E k=bl at *;generalize Pq:M.bH a b X E k=bh at *
  go_wp2_with (first
   | (with_reducible refine G_ P1 fun w5 hb5=>?_;replace ⟨C,R,T,B,Q⟩:=Lp hb5 C R T B Q;replace Q:=Q.alloc (.cells #[hl,hh] 72);have S:=aG.new w5 #[hl,hh] 72;have b_:=bA w5 (.cells #[hl,hh] 72);replace ⟨C,R,T,B⟩:=Kl b_ C R T B;(replace ⟨f_,j_⟩:=C.b2);(replace ⟨D_,F_,B_,C_⟩:=R.L_);(replace ⟨LI,LJ,OD,OE⟩:=T.L_);(replace ⟨MZ,Ma⟩:=S.b2))
   | (with_reducible refine G_ PC fun w6 hb6=>?_;replace ⟨C,R,T,S,B,Q⟩:=Ps hb6 C R T S B Q;(replace ⟨f_,j_⟩:=C.b2);(replace ⟨D_,F_,B_,C_⟩:=R.L_);(replace ⟨LI,LJ,OD,OE⟩:=T.L_);(replace ⟨MZ,Ma⟩:=S.b2)))
  go_roundw
  case rel=>exact ⟨k+1,ω,ν,Wp,by rw [eL.out,eH.out];exact aG.set2 T _ _,(C.other (show w.heap.size≠w4.heap.size by omega) _).other (show w.heap.size≠w4.heap.size by omega) _,(Q.other (show w.heap.size+1≠w4.heap.size by omega) _).other (show w.heap.size+1≠w4.heap.size by omega) _,(R.other (show w.heap.size+1+1≠w4.heap.size by omega) _).other (show w.heap.size+1+1≠w4.heap.size by omega) _,Pf B⟩
  case measure=>simp [intOf] <;> omega
 obtain rfl:k=5:=ω
 have Pp:=KO (show M.bN a b X E=5 by rw [←hN.out];rfl)
 have PV:=KO fun W=>my (M.bL a b X E 5) (M.bH a b X E 5) W
 have RL:=KO (show M.Lm a b X E=aJ (M.bL a b X E 5) (M.bH a b X E 5) by unfold M.Lm;rw [Pp.out])
 obtain ⟨k,hk5⟩:∃ k:Nat,k=5:=⟨5,rfl⟩
 rw [←hk5] at Pp PV RL T ⊢;rw [←hk5] at LI LJ
 have hlt5:¬ (k:Int)<5:=ω
 go_upto_region 8 with fail
 exact X7
theorem ut (a b X Y E:Int) (w:World) (hg:M.good a b=true) (hX1:-10000<=X) (hX2:X<=10000) (hE1:0<=E) (hE2:E<=20) :
  cB 53 #[.agg #[a,b],.agg #[X,Y,E]] w (.tuple #[.agg #[M.pick (M.Lm a b X E) (M.pn (M.bL a b X E (M.bN a b X E))),M.pick (M.Lm a b X E) (M.pd (M.bL a b X E (M.bN a b X E))),M.pick (M.Lm a b X E) (M.pn (M.bH a b X E (M.bN a b X E))),M.pick (M.Lm a b X E) (M.pd (M.bH a b X E (M.bN a b X E)))],M.pick (M.Lm a b X E) ((M.bN a b X E:Nat):Int),M.Lm a b X E]):=by
 have P0:=fun W=>qE a b X Y E 0 W hg hX1 hX2 hE1 hE2 ω
 rw [HX,show ((0:Nat):Int)=0 from rfl] at P0;simp only [fH] at P0
 have PK:=KO fun (k:Nat) W (hk:k<=5)=>qE a b X Y E k W hg hX1 hX2 hE1 hE2 hk
 have hL0:=KO (show M.hL (M.hC a b) 0 (aZ a b X E 0)=M.bL a b X E 0 from rfl);have hH0:=KO (show M.hH (M.hC a b) 0 (aZ a b X E 0)=M.bH a b X E 0 from rfl);have hin:=ae hg
 have hno:=KO fun k hk hs=>Ja (a:=a) (b:=b) (X:=X) (E:=E) (k:=k) hin hX1 hX2 hE1 hE2 hk hs
 have hss:=KO fun n hn=>Jo (a:=a) (b:=b) (X:=X) (E:=E) (C:=M.hC a b) (n:=n) (rq hin) hn hX1 hX2 hE1 hE2
 have hs0:=KO (show aJ (M.bL a b X E 0) (M.bH a b X E 0)=true from hss.out 0 ω);clear hg hin;rw [hL0.out,hH0.out] at P0;clear hL0 hH0;have P0:=KO P0;obtain ⟨wc,hw3,C,Q,R,B⟩:=dF w #[a,b] 24 #[X,Y,E] 47 #[(0:Int),(0:Int),(0:Int),(0:Int)] 34;have ⟨q0,q1,q2⟩:=Q.aM;have f_:=C.box.c0;have j_:=C.box.c1;have D_:=R.aI.c0;have B_:=R.aI.f0;have F_:=R.aI.c1;have C_:=R.aI.f1;have I_:=R.aI.c2;have KV:=R.aI.f2;have J_:=R.aI.c3;have KW:=R.aI.f3;generalize hu1:M.pn (M.bL a b X E 0)=u1 at *;generalize hu2:M.pd (M.bL a b X E 0)=u2 at *;generalize hu3:M.pn (M.bH a b X E 0)=u3 at *;generalize hu4:M.pd (M.bH a b X E 0)=u4 at *;replace hu1:=KO hu1;replace hu2:=KO hu2;replace hu3:=KO hu3;replace hu4:=KO hu4;go_enter func53,ntmps53
 go_wp2_with (with_reducible refine G_ P0 fun w4 hb4=>?_;replace ⟨C,R,B,Q⟩:=Kl hb4 C R B Q;have VU:=KO R.lt;replace Q:=Q.alloc (.cells #[u1,u2,u3,u4] 34);have T:=aG.new w4 #[u1,u2,u3,u4] 34;have b_:=bA w4 (.cells #[u1,u2,u3,u4] 34);replace ⟨C,R,B⟩:=Ky b_ C R B;clear b_;(replace ⟨f_,j_⟩:=C.b2);(replace ⟨D_,F_,I_,J_,B_,C_,KV,KW⟩:=R.LA);(replace ⟨LI,LJ,NV,NW⟩:=T.b4))
 go_loopw [9] (fun vi wr=>∃ k:Nat,k<=5/\vi=.int .i64 k/\Hid (M.Og a b X E (5 - k) k=M.bN a b X E)/\Hid (aJ (M.bL a b X E k) (M.bH a b X E k)=true)/\aG wr w4 34 #[M.pn (M.bL a b X E k),M.pd (M.bL a b X E k),M.pn (M.bH a b X E k),M.pd (M.bH a b X E k)]/\aG wr w 24 #[a,b]/\aG wr (w.heap.size+1) 47 #[X,Y,E]/\aG wr (w.heap.size+1+1) 34 #[(0:Int),(0:Int),(0:Int),(0:Int)]/\Below w w wr) (fun vi _=>5 - (intOf vi).toNat)
 case atStart=>exact ⟨0,ω,rfl,KO rfl,hs0,by rw [hu1.out,hu2.out,hu3.out,hu4.out];exact T,C,Q,R,B⟩
 case round=>
 clear C Q R B T P0 f_ j_ D_ F_ I_ J_ B_ C_ KV KW LI LJ NV NW q0 q1 q2 hu1 hu2 hu3 hu4 hs0;have hR9:=VU.out;obtain ⟨k,hk,rfl,hN,hsk,T,C,Q,R,B⟩:=hrel;have eL:M.bL a b X E (k+1)=max (M.bL a b X E k) (M.hL (M.hC a b) (k+1) (aZ a b X E (k+1))):=rfl;have eH:M.bH a b X E (k+1)=min (M.bH a b X E k) (M.hH (M.hC a b) (k+1) (aZ a b X E (k+1))):=rfl;have eL:=KO eL;have eH:=KO eH;generalize hbk:M.bL a b X E k=bl at *;generalize Pq:M.bH a b X E k=bh at *;replace hbk:=KO hbk;replace Pq:=KO Pq;have f_:=C.box.c0;have j_:=C.box.c1;have ⟨q0,q1,q2⟩:=Q.aM;have LI:=T.aI.c0;have LJ:=T.aI.c1;have NV:=T.aI.c2;have NW:=T.aI.c3;have OD:=T.aI.f0;have OE:=T.aI.f1;have Q7:=T.aI.f2;have Q8:=T.aI.f3;have D_:=R.aI.c0;have F_:=R.aI.c1;have I_:=R.aI.c2;have J_:=R.aI.c3;have B_:=R.aI.f0;have C_:=R.aI.f1;have KV:=R.aI.f2;have KW:=R.aI.f3
 by_cases hlt:k<5
 ·have P1:=fun W=>PK.out (k+1) W ω
  have hNs:M.Og a b X E (5 - k) k=if M.isOk (aZ a b X E (k+1))=true then M.Og a b X E (5 - (k+1)) (k+1) else k:=by
   rw [show 5 - k=(5 - (k+1))+1 by omega];rfl
  have hsn:=hss.out (k+1) ω;generalize M.hH (M.hC a b) (k+1) (aZ a b X E (k+1))=hh,M.hL (M.hC a b) (k+1) (aZ a b X E (k+1))=hl at *;have hk1:=KO (show ((k+1:Nat):Int)=(k:Int)+1 by omega);rw [hk1.out] at P1
  cases hok:M.isOk (aZ a b X E (k+1)) with
  | false=>
   rw [hok,if_neg δ] at hNs;have Pp:=KO (show M.bN a b X E=k by rw [←hN.out,hNs]);rw [hok] at P1;simp only [kM] at P1;have RL:=KO (show M.Lm a b X E=true by unfold M.Lm;rw [Pp.out,hbk.out,Pq.out];exact hsk.out);clear hNs hok hN eL eH hsn;have P1:=KO P1;generalize Pb:M.pn (bl)=t1 at *;replace Pb:=KO Pb;generalize Pc:M.pd (bl)=t2 at *;replace Pc:=KO Pc;generalize Pd:M.pn (bh)=t3 at *;replace Pd:=KO Pd;generalize Pe:M.pd (bh)=t4 at *;replace Pe:=KO Pe
   go_wp2_with (with_reducible refine G_ P1 fun w5 hb5=>?_;replace ⟨C,R,T,B,Q⟩:=Lp hb5 C R T B Q;replace Q:=Q.alloc (.cells #[(0:Int),(0:Int),(0:Int),(0:Int)] 34);have S:=aG.new w5 #[(0:Int),(0:Int),(0:Int),(0:Int)] 34;have b_:=bA w5 (.cells #[(0:Int),(0:Int),(0:Int),(0:Int)] 34);replace ⟨C,R,T,B⟩:=Kl b_ C R T B;clear b_;(replace ⟨f_,j_⟩:=C.b2);(replace ⟨D_,F_,I_,J_,B_,C_,KV,KW⟩:=R.LA);(replace ⟨LI,LJ,NV,NW⟩:=T.b4);(replace ⟨MZ,Ma,Q4,Q6⟩:=S.b4))
   exact KU (v:=.tuple #[.agg #[t1,t2,t3,t4],.int .i64 (k:Int),true]) results53 ⟨by rw [Pp.out,RL.out,hbk.out,Pq.out,Pb.out,Pc.out,Pd.out,Pe.out];simp only [fH],Lv B⟩
  | true=>
  rw [hok,if_pos rfl] at hNs;have Wp:=KO (hNs.symm.trans hN.out);rw [hok] at P1;simp only [fH] at P1
  have PC:=fun W=>so bl bh hl hh W hsk.out hsn
  clear hNs hok hN;have P1:=KO P1;have hse:=KO (show aJ (M.bL a b X E (k+1)) (M.bH a b X E (k+1))=aJ (max bl hl) (min bh hh) by rw [eL.out,eH.out])
  cases hs:aJ (max bl hl) (min bh hh) with
  | false=>
   have RL:=KO (show M.Lm a b X E=false from hno.out (k+1) (by have:=CV (a:=a) (b:=b) (X:=X) (E:=E) (5 - (k+1)) (k+1);rw [Wp.out] at this;exact this) (by rw [hse.out];exact hs));rw [hs] at PC;simp only [kM] at PC;clear hs hse;have PC:=KO PC;generalize Pb:M.pn (bl)=t1 at *;replace Pb:=KO Pb;generalize Pc:M.pd (bl)=t2 at *;replace Pc:=KO Pc;generalize Pd:M.pn (bh)=t3 at *;replace Pd:=KO Pd;generalize Pe:M.pd (bh)=t4 at *;replace Pe:=KO Pe;generalize y1h:M.pn (hl)=y1 at *;replace y1h:=KO y1h;generalize y2h:M.pd (hl)=y2 at *;replace y2h:=KO y2h;generalize y3h:M.pn (hh)=y3 at *;replace y3h:=KO y3h;generalize y4h:M.pd (hh)=y4 at *;replace y4h:=KO y4h
   go_wp2_with (first
    | (with_reducible refine G_ P1 fun w5 hb5=>?_;replace ⟨C,R,T,B,Q⟩:=Lp hb5 C R T B Q;replace Q:=Q.alloc (.cells #[y1,y2,y3,y4] 34);have S:=aG.new w5 #[y1,y2,y3,y4] 34;have b_:=bA w5 (.cells #[y1,y2,y3,y4] 34);replace ⟨C,R,T,B⟩:=Kl b_ C R T B;clear b_;(replace ⟨f_,j_⟩:=C.b2);(replace ⟨D_,F_,I_,J_,B_,C_,KV,KW⟩:=R.LA);(replace ⟨LI,LJ,NV,NW,OD,OE,Q7,Q8⟩:=T.LA);(replace ⟨MZ,Ma,Q4,Q6⟩:=S.b4))
    | (with_reducible refine G_ PC fun w6 hb6=>?_;replace ⟨C,R,T,S,B,Q⟩:=Ps hb6 C R T S B Q;replace Q:=Q.alloc (.cells #[(0:Int),(0:Int),(0:Int),(0:Int)] 34);have O:=aG.new w6 #[(0:Int),(0:Int),(0:Int),(0:Int)] 34;have b_:=bA w6 (.cells #[(0:Int),(0:Int),(0:Int),(0:Int)] 34);replace ⟨C,R,T,S,B⟩:=Lp b_ C R T S B;clear b_;(replace ⟨f_,j_⟩:=C.b2);(replace ⟨D_,F_,I_,J_,B_,C_,KV,KW⟩:=R.LA);(replace ⟨LI,LJ,NV,NW,OD,OE,Q7,Q8⟩:=T.LA);(replace ⟨MZ,Ma,Q4,Q6⟩:=S.b4);(replace ⟨NP,NQ,NS,NT⟩:=O.b4)))
   exact KU (v:=.tuple #[.agg #[(0:Int),(0:Int),(0:Int),(0:Int)],(0:Int),false]) results53 ⟨by rw [RL.out];simp only [kM],Lv B⟩
  | true=>
  have hs2:=KO (hse.out.trans hs);rw [hs] at PC;simp only [fH] at PC;clear hs hse;have PC:=KO PC;generalize Pb:M.pn (bl)=t1 at *;replace Pb:=KO Pb;generalize Pc:M.pd (bl)=t2 at *;replace Pc:=KO Pc;generalize Pd:M.pn (bh)=t3 at *;replace Pd:=KO Pd;generalize Pe:M.pd (bh)=t4 at *;replace Pe:=KO Pe;generalize y1h:M.pn (hl)=y1 at *;replace y1h:=KO y1h;generalize y2h:M.pd (hl)=y2 at *;replace y2h:=KO y2h;generalize y3h:M.pn (hh)=y3 at *;replace y3h:=KO y3h;generalize y4h:M.pd (hh)=y4 at *;replace y4h:=KO y4h;generalize z1h:M.pn (max bl hl)=z1 at *;replace z1h:=KO z1h;generalize z2h:M.pd (max bl hl)=z2 at *;replace z2h:=KO z2h;generalize z3h:M.pn (min bh hh)=z3 at *;replace z3h:=KO z3h;generalize z4h:M.pd (min bh hh)=z4 at *;replace z4h:=KO z4h
  go_wp2_with (first
   | (with_reducible refine G_ P1 fun w5 hb5=>?_;replace ⟨C,R,T,B,Q⟩:=Lp hb5 C R T B Q;replace Q:=Q.alloc (.cells #[y1,y2,y3,y4] 34);have S:=aG.new w5 #[y1,y2,y3,y4] 34;have b_:=bA w5 (.cells #[y1,y2,y3,y4] 34);replace ⟨C,R,T,B⟩:=Kl b_ C R T B;clear b_;(replace ⟨f_,j_⟩:=C.b2);(replace ⟨D_,F_,I_,J_,B_,C_,KV,KW⟩:=R.LA);(replace ⟨LI,LJ,NV,NW,OD,OE,Q7,Q8⟩:=T.LA);(replace ⟨MZ,Ma,Q4,Q6⟩:=S.b4))
   | (with_reducible refine G_ PC fun w6 hb6=>?_;replace ⟨C,R,T,S,B,Q⟩:=Ps hb6 C R T S B Q;replace Q:=Q.alloc (.cells #[z1,z2,z3,z4] 34);have O:=aG.new w6 #[z1,z2,z3,z4] 34;have b_:=bA w6 (.cells #[z1,z2,z3,z4] 34);replace ⟨C,R,T,S,B⟩:=Lp b_ C R T S B;clear b_;(replace ⟨f_,j_⟩:=C.b2);(replace ⟨D_,F_,I_,J_,B_,C_,KV,KW⟩:=R.LA);(replace ⟨LI,LJ,NV,NW,OD,OE,Q7,Q8⟩:=T.LA);(replace ⟨MZ,Ma,Q4,Q6⟩:=S.b4);(replace ⟨NP,NQ,NS,NT⟩:=O.b4)))
  go_roundw
  case rel=>exact ⟨k+1,ω,ν,Wp,hs2,by rw [eL.out,eH.out,z1h.out,z2h.out,z3h.out,z4h.out];exact aG.oK T _ _ _ _,(((C.other (show w.heap.size≠w4.heap.size by omega) _).other (show w.heap.size≠w4.heap.size by omega) _).other (show w.heap.size≠w4.heap.size by omega) _).other (show w.heap.size≠w4.heap.size by omega) _,(((Q.other (show w.heap.size+1≠w4.heap.size by omega) _).other (show w.heap.size+1≠w4.heap.size by omega) _).other (show w.heap.size+1≠w4.heap.size by omega) _).other (show w.heap.size+1≠w4.heap.size by omega) _,(((R.other (show w.heap.size+1+1≠w4.heap.size by omega) _).other (show w.heap.size+1+1≠w4.heap.size by omega) _).other (show w.heap.size+1+1≠w4.heap.size by omega) _).other (show w.heap.size+1+1≠w4.heap.size by omega) _,Lv B⟩
  case measure=>simp [intOf] <;> omega
 obtain rfl:k=5:=ω
 have Pp:=KO (show M.bN a b X E=5 by rw [←hN.out];rfl);have RL:=KO (show M.Lm a b X E=true by unfold M.Lm;rw [Pp.out,hbk.out,Pq.out];exact hsk.out);clear hN PK eL eH
 obtain ⟨k,hk5⟩:∃ k:Nat,k=5:=⟨5,rfl⟩
 rw [←hk5] at Pp hbk Pq;have VX:=KO (show (k:Int)=5 by omega);clear hk5;generalize Pb:M.pn (bl)=t1 at *;replace Pb:=KO Pb;generalize Pc:M.pd (bl)=t2 at *;replace Pc:=KO Pc;generalize Pd:M.pn (bh)=t3 at *;replace Pd:=KO Pd;generalize Pe:M.pd (bh)=t4 at *;replace Pe:=KO Pe;go_wp2;exact KU (v:=.tuple #[.agg #[t1,t2,t3,t4],(5:Int),true]) results53 ⟨by rw [Pp.out,RL.out,VX.out,hbk.out,Pq.out,Pb.out,Pc.out,Pd.out,Pe.out];simp only [fH],Lv B⟩
theorem xQ (a b X Y E:Int) (w:World) (hg:M.good a b=true) (hX1:-10000<=X) (hX2:X<=10000) (hE1:0<=E) (hE2:E<=20) :
  cB 117 #[.agg #[a,b],.agg #[X,Y,E]] w (.tuple #[.agg #[M.pick (M.Lm a b X E) (M.pn (M.bL a b X E (M.bN a b X E))),M.pick (M.Lm a b X E) (M.pd (M.bL a b X E (M.bN a b X E))),M.pick (M.Lm a b X E) (M.pn (M.bH a b X E (M.bN a b X E))),M.pick (M.Lm a b X E) (M.pd (M.bH a b X E (M.bN a b X E)))],M.Lm a b X E]):=by
 have P1:=fun W=>ut a b X Y E W hg hX1 hX2 hE1 hE2
 generalize M.pick (M.Lm a b X E) (M.pd (M.bH a b X E (M.bN a b X E)))=p4,M.pick (M.Lm a b X E) (M.pn (M.bH a b X E (M.bN a b X E)))=p3,M.pick (M.Lm a b X E) (M.pd (M.bL a b X E (M.bN a b X E)))=p2,M.pick (M.Lm a b X E) (M.pn (M.bL a b X E (M.bN a b X E)))=p1 at *;generalize M.pick (M.Lm a b X E) ((M.bN a b X E:Nat):Int)=nn at *;generalize M.Lm a b X E=s at *;have P1:=KO P1;obtain ⟨wc,hw3,C,Q,R,B⟩:=dF w #[a,b] 24 #[X,Y,E] 47 #[(0:Int),(0:Int),(0:Int),(0:Int)] 34;have ⟨q0,q1,q2⟩:=Q.aM;have f_:=C.box.c0;have j_:=C.box.c1;go_enter func117,ntmps117
 go_wp2_with (with_reducible refine G_ P1 fun w4 hb4=>?_;replace ⟨C,R,B⟩:=Ky hb4 C R B;have T:=aG.new w4 #[p1,p2,p3,p4] 34;have b_:=bA w4 (.cells #[p1,p2,p3,p4] 34);replace ⟨C,R,B⟩:=Ky b_ C R B;clear b_;(replace ⟨f_,j_⟩:=C.b2);(replace ⟨D_,F_,I_,J_,B_,C_,KV,KW⟩:=R.LA);(replace ⟨LI,LJ,NV,NW⟩:=T.b4))
 exact KU results117 ⟨rfl,Lv B⟩
theorem Rt {p:Prop} (h:p:=by
 rw [hr2.out];have P1:=KO P1;have P2:=KO P2;have P4:=KO P4;clear hgb hge hyb QQ Mg;go_enter func50,ntmps50
 go_wp2_with (first
  | (with_reducible refine G_ PC fun w4 hb4=>?_;replace ⟨C,B,Q⟩:=Ky hb4 C B Q;(have ⟨z0,z1,z2⟩:=Q.aM);(replace ⟨f_,j_⟩:=C.b2))
  | (first | (with_reducible refine Kw (P1.out _) ?_) | (with_reducible refine Kw (P2.out _) ?_) | (with_reducible refine Kw (P4.out _) ?_)))
 go_ret;exact ⟨rfl,B⟩):p:=h
theorem YL {p:Prop} (h:p:=by
 rw [hr2.out];clear hpt QQ hyb hcb PV;have P1:=KO P1;have P2:=KO P2;have P4:=KO P4;go_enter func50,ntmps50
 go_wp2_with (first
  | (with_reducible refine G_ PC fun w4 hb4=>?_;replace ⟨C,B,Q⟩:=Ky hb4 C B Q;(have ⟨z0,z1,z2⟩:=Q.aM);(replace ⟨f_,j_⟩:=C.b2))
  | (first | (with_reducible refine Kw (P1.out _) ?_) | (with_reducible refine Kw (P2.out _) ?_) | (with_reducible refine Kw (P4.out _) ?_))
  | (go_at_call 97;(refine (PG.out _).mono ?_);rintro e w7 ⟨rfl,m_,rfl⟩))
 go_ret;exact ⟨rfl,aP B _⟩):p:=h
theorem Ul {p:Prop} (h:p:=by
 go_wp2_with (with_reducible refine G_ PC fun w4 hb4=>?_;replace ⟨C,B,Q⟩:=Ky hb4 C B Q;(have ⟨z0,z1,z2⟩:=Q.aM);(replace ⟨f_,j_⟩:=C.b2))
 go_ret;exact ⟨rfl,B⟩):p:=h
namespace M
def cv (a b x e:Int):Int:=x*x*x+a*x*e*e*e*e+b*e*e*e*e*e*e
def aV (a b X Y E:Int):Bool:=if E=0 then decide (X=0) && decide (Y=0) else M.ins X (-10000) 10000 && M.ins E 1 20 && (M.gcd X E == 1) && decide (Y*Y=cv a b X E)
theorem Cs (a b x e:Int):x*x*x+a*x*(e*e)*(e*e)+b*(e*e)*(e*e)*(e*e)=cv a b x e:=by unfold cv;grind
end M
theorem ir (a b x e:Int) (w:World) (ha1:-1000<=a) (ha2:a<=1000) (hb1:-10000<=b) (hb2:b<=10000) (hx1:-10000<=x) (hx2:x<=10000) (he1:-20<=e) (he2:e<=20) :
  Calls prog 98 #[.agg #[a,b],x,e] w fun e' w'=>e'=.returned (.int .i64 (M.cv a b x e))/\Below w w w':=by
 have sb1:=aH (x:=x) (y:=x) (m:=10000) (n:=10000);have sb2:=aH (x:=x*x) (y:=x) (m:=100000000) (n:=10000);have sb3:=aH (x:=a) (y:=x) (m:=1000) (n:=10000);have sb4:=aH (x:=a*x) (y:=e) (m:=10000000) (n:=20);have sb5:=aH (x:=a*x*e) (y:=e) (m:=200000000) (n:=20);have sb6:=aH (x:=a*x*e*e) (y:=e) (m:=4000000000) (n:=20);have sb7:=aH (x:=a*x*e*e*e) (y:=e) (m:=80000000000) (n:=20);have sb8:=aH (x:=b) (y:=e) (m:=10000) (n:=20);have sb9:=aH (x:=b*e) (y:=e) (m:=200000) (n:=20);have Rj:=aH (x:=b*e*e) (y:=e) (m:=4000000) (n:=20);have Rk:=aH (x:=b*e*e*e) (y:=e) (m:=80000000) (n:=20);have Rl:=aH (x:=b*e*e*e*e) (y:=e) (m:=1600000000) (n:=20);have Rm:=aH (x:=b*e*e*e*e*e) (y:=e) (m:=32000000000) (n:=20);have hcv:=KO (Cs a b x e);go_enter func98,ntmps98
 go_wp2;go_ret;exact ⟨by rfl,LV⟩
theorem sY (a b x e:Int) (w:World) (ha1:-1000<=a) (ha2:a<=1000) (hb1:-10000<=b) (hb2:b<=10000) (hx1:-10000<=x) (hx2:x<=10000) (he1:-20<=e) (he2:e<=20) :
  Calls prog 144 #[.agg #[a,b],x,e] w fun e' w'=>e'=.returned (.int .i64 (M.cv a b x e))/\Below w w w':=by
 have Rn:=aH (x:=x) (y:=x) (m:=10000) (n:=10000);have Ro:=aH (x:=x*x) (y:=x) (m:=100000000) (n:=10000);have Rp:=aH (x:=a) (y:=x) (m:=1000) (n:=10000);have UQ:=aH (x:=e) (y:=e) (m:=20) (n:=20);have UR:=aH (x:=a*x) (y:=e*e) (m:=10000000) (n:=400);have US:=aH (x:=a*x*(e*e)) (y:=e*e) (m:=4000000000) (n:=400);have UT:=aH (x:=b) (y:=e*e) (m:=10000) (n:=400);have UU:=aH (x:=b*(e*e)) (y:=e*e) (m:=4000000) (n:=400);have UV:=aH (x:=b*(e*e)*(e*e)) (y:=e*e) (m:=1600000000) (n:=400);have hcv:=KO (Cs a b x e);go_enter func144,ntmps144
 go_wp2;go_ret;exact ⟨by rw [←hcv.out];rfl,LV⟩
theorem M.rh {a b x e:Int} (ha1:-1000<=a) (ha2:a<=1000) (hb1:-10000<=b) (hb2:b<=10000) (hx1:-10000<=x) (hx2:x<=10000) (he1:-20<=e) (he2:e<=20):-4000000000000<=M.cv a b x e/\M.cv a b x e<=4000000000000:=by
 have UW:=aH (x:=x) (y:=x) (m:=10000) (n:=10000);have UX:=aH (x:=x*x) (y:=x) (m:=100000000) (n:=10000);have UY:=aH (x:=a) (y:=x) (m:=1000) (n:=10000);have UZ:=aH (x:=a*x) (y:=e) (m:=10000000) (n:=20);have Ua:=aH (x:=a*x*e) (y:=e) (m:=200000000) (n:=20);have Xo:=aH (x:=a*x*e*e) (y:=e) (m:=4000000000) (n:=20);have sb29:=aH (x:=a*x*e*e*e) (y:=e) (m:=80000000000) (n:=20);have sb30:=aH (x:=b) (y:=e) (m:=10000) (n:=20);have sb31:=aH (x:=b*e) (y:=e) (m:=200000) (n:=20);have sb32:=aH (x:=b*e*e) (y:=e) (m:=4000000) (n:=20);have sb33:=aH (x:=b*e*e*e) (y:=e) (m:=80000000) (n:=20);have sb34:=aH (x:=b*e*e*e*e) (y:=e) (m:=1600000000) (n:=20);have sb35:=aH (x:=b*e*e*e*e*e) (y:=e) (m:=32000000000) (n:=20);unfold M.cv;omega
theorem M.G0 {Y v:Int} (h:Y*Y=v) (hv:v<=4000000000000):-3000000<=Y/\Y<=3000000:=by
 constructor
 ·rcases Int.lt_or_le Y (-3000000) with q | q
  ·have:=Int.mul_le_mul (a:=3000000) (b:=3000000) (c:=-Y) (d:=-Y) ω ω ω ω
   rw [Int.neg_mul_neg] at this;omega
  exact q
 rcases Int.lt_or_le 3000000 Y with q | q
 ·have:=Int.mul_le_mul (a:=3000000) (b:=3000000) (c:=Y) (d:=Y) ω ω ω ω
  omega
 exact q
theorem kh (a b X Y E:Int) (w:World) :
  cB 50 #[.agg #[a,b],.agg #[X,Y,E]] w (M.good a b && aV a b X Y E):=by
 have PC:=fun W=>sH a b W
 have PI:=KO fun n lo hi W=>dW n lo hi W
 obtain ⟨wc,hw3,C,Q,B⟩:=dQ w #[a,b] 24 #[X,Y,E] 47;have ⟨q0,q1,q2⟩:=Q.aM;have f_:=C.box.c0;have j_:=C.box.c1
 cases hgd:M.good a b with
 | false=>
  rw [hgd] at PC;have PC:=KO PC;go_enter func50,ntmps50
  exact Ul
 | true=>
 obtain ⟨ha1,ha2,hb1,hb2⟩:=ag (ae hgd);rw [hgd] at PC;have PC:=KO PC;clear hgd;rw [Bool.true_and]
 by_cases hE:E=0
 ·by_cases hX:X=0
  ·by_cases hY:Y=0
   ·subst hE hX hY
    go_enter func50,ntmps50
    exact Ul
   have hres:=KO (show aV a b X Y E=false by unfold aV;rw [if_pos hE];simp [hY]);have hi:=KO (show M.ins E 1 20=false by unfold M.ins;simp;omega);subst hE hX;rw [hres.out]
   have PE:=fun W=>PI.out 0 1 20 W
   rw [hi.out] at PE;have PE:=KO PE;have hi2:=KO (show M.ins 0 (-10000) 10000=true by decide)
   have PX:=fun W=>PI.out 0 (-10000) 10000 W
   rw [hi2.out] at PX;have PX:=KO PX;clear PI;go_enter func50,ntmps50
   go_wp2_with (first
    | (with_reducible refine G_ PC fun w4 hb4=>?_;replace ⟨C,B,Q⟩:=Ky hb4 C B Q;(have ⟨z0,z1,z2⟩:=Q.aM);(replace ⟨f_,j_⟩:=C.b2))
    | (first | (with_reducible refine Kw (PX.out _) ?_) | (with_reducible refine Kw (PE.out _) ?_)))
   go_ret;exact ⟨rfl,B⟩
  have hX0:(X == 0)=false:=by rw [beq_eq_false_iff_ne];exact hX
  subst hE
  have Mg:(M.ins X (-10000) 10000=false∨M.ins 0 1 20=false)->aV a b X Y 0=false:=fun _=>by unfold aV;rw [if_pos rfl];simp [hX]
  have hE0:M.ins 0 1 20=false:=δ
  have P1:=fun W=>PI.out X (-10000) 10000 W
  have P2:=fun W=>PI.out 0 1 20 W
  have P4:=fun W=>PI.out Y (-3000000) 3000000 W
  have hgb:=fun h=>jR (n:=X) (lo:=-10000) (hi:=10000) h
  have hge:=fun h=>jR (n:=0) (lo:=1) (hi:=20) h
  have hyb:=fun h=>G0 (Y:=Y) (v:=M.cv a b X 0) h
  have QQ:M.ins Y (-3000000) 3000000=true ↔ (-3000000<=Y/\Y<=3000000):=by unfold M.ins;simp
  generalize M.ins Y (-3000000) 3000000=i4,M.ins 0 1 20=i2,M.ins X (-10000) 10000=i1 at *;clear PI
  cases i1 with
  | false=>
   have hr2:=KO (show aV a b X Y 0=false from Mg (Or.inl rfl));exact Rt
  | true=>
  cases i2 with
  | false=>
   have hr2:=KO (show aV a b X Y 0=false from Mg (Or.inr rfl));exact Rt
  | true=>exact absurd hE0 δ
 have hE0:(E == 0)=false:=by rw [beq_eq_false_iff_ne];exact hE
 have hpt:aV a b X Y E=(M.ins X (-10000) 10000 && M.ins E 1 20 && (M.gcd X E == 1) && decide (Y*Y=M.cv a b X E)):=by unfold aV;rw [if_neg hE]
 have Mg:(M.ins X (-10000) 10000=false∨M.ins E 1 20=false)->aV a b X Y E=false:=fun h=>by rw [hpt];rcases h with h | h <;> rw [h] <;> simp
 have P1:=fun W=>PI.out X (-10000) 10000 W
 have P2:=fun W=>PI.out E 1 20 W
 have P4:=fun W=>PI.out Y (-3000000) 3000000 W
 have hgb:=fun h=>jR (n:=X) (lo:=-10000) (hi:=10000) h
 have hge:=fun h=>jR (n:=E) (lo:=1) (hi:=20) h
 have hyb:=fun h=>G0 (Y:=Y) (v:=M.cv a b X E) h
 have QQ:M.ins Y (-3000000) 3000000=true ↔ (-3000000<=Y/\Y<=3000000):=by unfold M.ins;simp
 generalize M.ins Y (-3000000) 3000000=i4,M.ins E 1 20=i2,M.ins X (-10000) 10000=i1 at *;clear PI
 cases i1 with
 | false=>
  have hr2:=KO (show aV a b X Y E=false from Mg (Or.inl rfl));exact Rt
 | true=>
 cases i2 with
 | false=>
  have hr2:=KO (show aV a b X Y E=false from Mg (Or.inr rfl));exact Rt
 | true=>
 rw [Bool.true_and,Bool.true_and] at hpt;have hb1:=hgb rfl;have hb2:=hge rfl;obtain ⟨x1,x2⟩:=hb1;obtain ⟨e1,e2⟩:=hb2
 have PG:=KO fun W=>qR X E W ω ω ω ω
 have hcb:=rh (a:=a) (b:=b) (x:=X) (e:=E) ha1 ha2 ω ω x1 x2 ω ω
 have PV:=fun W=>ir a b X E W ha1 ha2 ω ω x1 x2 ω ω
 clear hgb hge Mg;generalize M.gcd X E=gg at *
 by_cases hg1:gg=1
 ·have hg2:(gg == 1)=true:=by rw [beq_iff_eq];exact hg1
  rw [hg2,Bool.true_and] at hpt
  cases i4 with
  | false=>
   have hr2:=KO (show aV a b X Y E=false by rw [hpt];simp only [decide_eq_false_iff_not];intro Ni;have:=QQ.2 (hyb Ni ω);cases this);exact YL
  | true=>
  obtain ⟨y1,y2⟩:=QQ.1 rfl;have Ni:=aH (x:=Y) (y:=Y) (m:=3000000) (n:=3000000);generalize M.cv a b X E=v at *;have hpt:=KO hpt;rw [hpt.out];clear QQ hyb hcb;have PV:=KO PV;have P1:=KO P1;have P2:=KO P2;have P4:=KO P4;go_enter func50,ntmps50
  go_upto_region 7 with (first
   | (with_reducible refine G_ PC fun w4 hb4=>?_;replace ⟨C,B,Q⟩:=Ky hb4 C B Q;(have ⟨z0,z1,z2⟩:=Q.aM);(replace ⟨f_,j_⟩:=C.b2))
   | (first | (with_reducible refine Kw (P1.out _) ?_) | (with_reducible refine Kw (P2.out _) ?_) | (with_reducible refine Kw (P4.out _) ?_))
   | (go_at_call 97;(refine (PG.out _).mono ?_);rintro e w7 ⟨rfl,m_,rfl⟩))
  have C2:aG (w4.drewN m_) w 24 #[a,b]:=by unfold aG at *;rw [World.heap_drewN];exact C
  have Q2:aG (w4.drewN m_) (w.heap.size+1) 47 #[X,Y,E]:=by unfold aG at *;rw [World.heap_drewN];exact Q
  have B2:=aP B m_;generalize w4.drewN m_=wd at *;clear C Q B;refine be 13 [.is (.pointer (some ⟨w.heap.size+1,1,none⟩)),.is Y,.is (.pointer (some ⟨w.heap.size+1,1,none⟩)),.is Y,.is (Y*Y:Int),.is (.agg #[a,b]),.is (.pointer (some ⟨w.heap.size+1,0,none⟩)),.is X,.is (.pointer (some ⟨w.heap.size+1,2,none⟩)),.is E,.is v,.is (decide (Y*Y=v)),.is (decide (Y*Y=v))] κ κ κ ⟨?_,?_,?_,?_,?_,?_,?_,?_,?_,?_,?_,?_,?_,trivial⟩ ?_
  all_goals try ((first | (refine Rg.b1 ?_;intro zZ w_ hB e) | (refine Rg.b2 ?_;intro zZ w_ hB e f));have kz:=aE hB Q2.aM.2.1;have kz:=aE hB C2.box.c0;have kz:=aE hB C2.box.c1;have kz:=aE hB Q2.aM.1;have kz:=aE hB Q2.aM.2.2;(first | (go_simp;done) | (go_simp;exact Rg.wo ω) | (go_simp;first | done | rfl | (by_cases Ke:Y*Y=v <;> simp [Ke];done);done)))
  ·intro _ zZ w_ hB hr
   have e40:=Rg.A_ (hr 40 δ);have e42:=Rg.A_ (hr 42 δ);have e44:=Rg.A_ (hr 44 δ);have ef:=Rg.ef zZ;exact bO rfl γ (PV.out _)
  intro vals wz hB hv hne;have L6:vals 12=.bool (decide (Y*Y=v)):=hv 12 δ;simp only [bD,Rg.fill,Act.put,Nat.reduceAdd];clear hv;simp only [L6];clear L6;unfold aU;go_wp2;go_ret;exact ⟨rfl,p_ B2 hB⟩
 have hg2:(gg == 1)=false:=by rw [beq_eq_false_iff_ne];exact hg1
 have hr2:=KO (show aV a b X Y E=false by rw [hpt,hg2];rfl);exact YL
end
section
open Gr M Rg Rw Wh
namespace M
def da (X Y E:Int):r_:=if E=0 then .O else .fin ((X:Rat) / ((E*E:Int):Rat)) ((Y:Rat) / ((E*E*E:Int):Rat))
theorem kN {a b X Y E:Int} (h:aV a b X Y E=true) (hE:E≠0):(-10000<=X/\X<=10000)/\(1<=E/\E<=20)/\Int.gcd X E=1/\Y*Y=cv a b X E:=by
 unfold aV at h;rw [if_neg hE] at h;simp only [Bool.and_eq_true,ins,decide_eq_true_eq,beq_iff_eq,gcd] at h;obtain ⟨⟨⟨h1,h2⟩,h3⟩,h4⟩:=h;exact ⟨h1,h2,ω,h4⟩
theorem I1 {a b X Y E:Int} (h:aV a b X Y E=true) (hE:E=0):X=0/\Y=0:=by
 unfold aV at h;rw [if_pos hE] at h;simp only [Bool.and_eq_true,decide_eq_true_eq] at h;exact h
theorem fJ {E:Int} (h:E≠0):(E:Rat)≠0:=by exact_mod_cast h
theorem gH {a b X Y E:Int} (h:aV a b X Y E=true):r_.On a b (da X Y E):=by
 unfold da
 split
 ·trivial
 rename_i hE
 obtain ⟨-,-,-,h4⟩:=kN h hE;unfold r_.On
 have h5:(Y:Rat)*Y=X*X*X+a*X*E*E*E*E+b*E*E*E*E*E*E:=by
  unfold cv at h4
  exact_mod_cast h4
 have hz:=fJ hE
 push_cast
 generalize (E:Rat)=e at *;have k1:=Rat.div_mul_cancel (a:=(X:Rat)) (b:=e*e) φ;have k2:=Rat.div_mul_cancel (a:=(Y:Rat)) (b:=e*e*e) φ;generalize (X:Rat) / (e*e)=x at *;generalize (Y:Rat) / (e*e*e)=y at *;rw [←k1,←k2] at h5;clear k1 k2
 have:(e*e*e*e*e*e)*(y*y)=(e*e*e*e*e*e)*(x*x*x+a*x+b):=φ
 have Vc:e*e*e*e*e*e≠0:=φ
 grind
theorem ED {a b X Y E:Int} (h:aV a b X Y E=true) (hE:E≠0):r_.px (da X Y E)=X/\r_.pz (da X Y E)=E*E:=by
 obtain ⟨-,h2,h3,-⟩:=kN h hE;unfold da;rw [if_neg hE]
 have hg:Int.gcd X (E*E)=1:=by
  unfold Int.gcd at *;rw [Int.natAbs_mul];exact Nat.Coprime.mul_right h3 h3
 have hp:0<E*E:=Int.mul_pos ω ω;exact GU hp hg (Rat.div_mul_cancel (fJ ω))
theorem uF (X Y:Int):da X Y 0=.O:=rfl
theorem IW {a b:Int} {d x z:Int} (h0:d ∣ 4*aN a b) (hc:Int.gcd x z=1):Wh.Mm (aN a b) (d*x) (d*z)=d.natAbs:=by
 unfold Wh.Mm;rw [Nat.gcd_assoc]
 have e:Nat.gcd (d*x).natAbs (d*z).natAbs=d.natAbs:=by
  have:=Int.gcd_mul_left d x z;rw [hc,Nat.mul_one] at this;exact this
 rw [e];have:=Int.natAbs_dvd_natAbs.2 h0;rw [Int.natAbs_mul] at this;exact Nat.gcd_eq_right this
theorem dbND {a b:Int} {d x z:Int} (h0:d≠0) (h1:d ∣ 4*aN a b) (hc:Int.gcd x z=1) (hz:0<z) :
  Wh.Oj (aN a b) (d*x) (d*z)=x/\Wh.Oi (aN a b) (d*x) (d*z)=z:=by
 unfold Wh.Oj Wh.Oi;rw [IW h1 hc]
 rcases Int.lt_or_le d 0 with hs | hs
 ·have hneg:d*z<0:=by
   have:=Int.mul_pos (a:=-d) (b:=z) ω hz;rw [Int.neg_mul] at this;omega
  rw [if_pos hneg,if_pos hneg]
  have e:(d.natAbs:Int)=-d:=ω
  rw [e]
  have:∀ t:Int,-(d*t / -d)=t:=fun t=>by
   rw [show d*t=-d*-t by grind,Int.mul_ediv_cancel_left _ ω];omega
  exact ⟨this x,this z⟩
 have hpos:¬ d*z<0:=by
  have:=Int.mul_pos (a:=d) (b:=z) ω hz;omega
 rw [if_neg hpos,if_neg hpos]
 have e:(d.natAbs:Int)=d:=ω
 rw [e];exact ⟨Int.mul_ediv_cancel_left _ h0,Int.mul_ediv_cancel_left _ h0⟩
def ud (P:r_):Out->Prop
 | .val u v=>r_.px P=u/\r_.pz P=v
 | .inf=>P=.O
 | .bad=>True
theorem zW {P:r_} (h:r_.pz P=0):P=.O:=by
 cases P with
 | O=>rfl
 | fin x y=>
 have:=x.den_nz;have h:(x.den:Int)=0:=h;omega
theorem EW {a b:Int} (hd:aN a b≠0) {P:r_} (hP:r_.On a b P) {o:Out} (ho:ud P o):∀ n,ud (r_.K6 a n P) (run a b n o)
 | 0=>ho
 | n+1=>by
  have ih:=EW hd hP ho n;have hon:=r_.fS (r_.dP hd) hP n
  show ud (r_.add a (r_.K6 a n P) (r_.K6 a n P)) (nx a b (run a b n o))
  generalize run a b n o=q at *;generalize r_.K6 (a:Rat) n P=Q at *
  cases q with
  | bad=>trivial
  | inf=>
   have ih:Q=.O:=ih;rw [ih];rfl
  | val u v=>
  obtain ⟨rfl,rfl⟩:=(ih:r_.px Q=u/\r_.pz Q=v)
  obtain ⟨d,h1,h2,h3,h4⟩:=r_.uz hd hon;have hc:=r_.cop (r_.add (a:Rat) Q Q);have hn:=r_.EJ (r_.add (a:Rat) Q Q);unfold nx
  dsimp only
  rw [h3,h4]
  split
  ·rename_i hz
   rcases Int.mul_eq_zero.1 hz with h | h
   ·exact absurd h h1
   exact zW h
  rename_i hz
  split
  ·have hp:0<r_.pz (r_.add (a:Rat) Q Q):=by
    rcases Int.lt_or_le 0 (r_.pz (r_.add (a:Rat) Q Q)) with h | h
    ·exact h
    exact absurd (show d*r_.pz (r_.add (a:Rat) Q Q)=0 by rw [show r_.pz (r_.add (a:Rat) Q Q)=0 by omega,Int.mul_zero]) hz
   obtain ⟨e1,e2⟩:=dbND h1 h2 hc hp;rw [e1,e2];exact ⟨rfl,rfl⟩
  trivial
theorem Iu {a b X Y E:Int} (hd:aN a b≠0) (h:aV a b X Y E=true) (n:Nat):ud (r_.K6 a n (da X Y E)) (aZ a b X E n):=by
 unfold aZ
 split
 ·rename_i hE
  subst hE;rw [uF,r_.DE];rfl
 rename_i hE
 exact EW hd (gH h) (o:=.val X (E*E)) (ED h hE) n
def LO (s:Nat->Int) (lo hi:Int):Prop:=∃ c:Int,∀ n,lo*4 ^ n - c<=4096*s n/\4096*s n<=hi*4 ^ n+c
theorem gp (n:Nat):(1:Int)<=4 ^ n:=by
 induction n with
 | zero=>decide
 | succ n ih=>rw [Int.pow_succ];omega
theorem J0 (n:Nat):(n:Int)<=4 ^ n:=by
 induction n with
 | zero=>decide
 | succ n ih=>rw [Int.pow_succ];have:=gp n;omega
theorem Fh {x c:Int} (h:∀ n:Nat,x*4 ^ n<=c):x<=0:=by
 rcases Int.lt_or_le 0 x with hx | hx
 ·exfalso
  have h1:=h (c.toNat+1);have h2:=J0 (c.toNat+1);have h3:1*(4:Int) ^ (c.toNat+1)<=x*4 ^ (c.toNat+1):=Int.mul_le_mul_of_nonneg_right ω (by have:=gp (c.toNat+1);omega);omega
 exact hx
theorem LO.meet {s t:Nat->Int} {l h l' h':Int} (k:LO s l h) (k':LO t l' h') (e:r_.Cl s t):l<=h':=by
 obtain ⟨c,k⟩:=k;obtain ⟨d,k'⟩:=k';obtain ⟨f,e⟩:=e
 have:=Fh (x:=l - h') (c:=c+d+4096*f) fun n=>by
  have:=k n;have:=k' n;have:=e n;rw [Int.sub_mul];omega
 omega
theorem LO.valid {s:Nat->Int} {l h:Int} (k:LO s l h):l<=h:=k.meet k (r_.Cl.refl s)
theorem LO.common {s:Nat->Int} {l h l' h':Int} (k:LO s l h) (k':LO s l' h'):LO s (max l l') (min h h'):=by
 obtain ⟨c,k⟩:=k;obtain ⟨d,k'⟩:=k';refine ⟨max c d,fun n=>?_⟩;have:=k n;have:=k' n
 rcases Int.le_total l l' with h1 | h1 <;> rcases Int.le_total h h' with h2 | h2
 ·rw [Int.max_eq_right h1,Int.min_eq_left h2];omega
 ·rw [Int.max_eq_right h1,Int.min_eq_right h2];omega
 ·rw [Int.max_eq_left h1,Int.min_eq_left h2];omega
 rw [Int.max_eq_left h1,Int.min_eq_right h2];omega
theorem LO.cl {s t:Nat->Int} {l h:Int} (k:LO s l h) (e:r_.Cl s t):LO t l h:=by
 obtain ⟨c,k⟩:=k;obtain ⟨f,e⟩:=e;exact ⟨c+4096*f,fun n=>by have:=k n;have:=e n;omega⟩
theorem LO.add {s t:Nat->Int} {l h l' h':Int} (k:LO s l h) (k':LO t l' h'):LO (fun n=>s n+t n) (l+l') (h+h'):=by
 obtain ⟨c,k⟩:=k;obtain ⟨d,k'⟩:=k';exact ⟨c+d,fun n=>by have:=k n;have:=k' n;rw [Int.add_mul,Int.add_mul];show _<=4096*(s n+t n)/\4096*(s n+t n)<=_;omega⟩
theorem LO.sub {s t:Nat->Int} {l h l' h':Int} (k:LO s l h) (k':LO t l' h'):LO (fun n=>s n - t n) (l - h') (h - l'):=by
 obtain ⟨c,k⟩:=k;obtain ⟨d,k'⟩:=k';exact ⟨c+d,fun n=>by have:=k n;have:=k' n;rw [Int.sub_mul,Int.sub_mul];show _<=4096*(s n - t n)/\4096*(s n - t n)<=_;omega⟩
theorem LO.scale {s:Nat->Int} {l h:Int} (m:Nat) (k:LO s l h):LO (fun n=>(m:Int)*s n) (l*m) (h*m):=by
 obtain ⟨c,k⟩:=k;refine ⟨m*c,fun n=>?_⟩;have k:=k n
 have hm:(0:Int)<=m:=ω
 have k1:=Int.mul_le_mul_of_nonneg_left k.1 hm;have k2:=Int.mul_le_mul_of_nonneg_left k.2 hm
 constructor
 ·calc l*m*4 ^ n - m*c=(m:Int)*(l*4 ^ n - c):=φ
   _<=(m:Int)*(4096*s n):=k1
   _=4096*((m:Int)*s n):=φ
 calc 4096*((m:Int)*s n)=(m:Int)*(4096*s n):=φ
  _<=(m:Int)*(h*4 ^ n+c):=k2
  _=h*m*4 ^ n+m*c:=φ
end M
namespace M
def HK (k:Nat) (s:Nat->Int) (lo hi:Int):Prop:=∃ c:Int,0<=c/\∀ n:Nat,lo*((4 ^ n) ^ k*4 ^ n) - c*(4 ^ n) ^ k<=4096*s n/\4096*s n<=hi*((4 ^ n) ^ k*4 ^ n)+c*(4 ^ n) ^ k
theorem xn (n k:Nat):(1:Int)<=(4 ^ n) ^ k:=by
 induction k with
 | zero=>exact Int.le_refl _
 | succ k ih=>
 rw [Int.pow_succ];have h:=gp n;exact Int.le_trans δ (Int.mul_le_mul ih h δ ω)
theorem HK.of {s:Nat->Int} {lo hi:Int} (h:LO s lo hi):HK 0 s lo hi:=by
 obtain ⟨c,h⟩:=h;refine ⟨max c 0,ω,fun n=>?_⟩;have:=h n;rw [Int.pow_zero,Int.one_mul,Int.mul_one];omega
theorem HK.zero (k:Nat):HK k (fun _=>0) 0 0:=⟨0,Int.le_refl _,fun n=>σ⟩
theorem HK.add {k:Nat} {s t:Nat->Int} {l h l' h':Int} (p:HK k s l h) (q:HK k t l' h'):HK k (fun n=>s n+t n) (l+l') (h+h'):=by
 obtain ⟨c,c0,p⟩:=p;obtain ⟨d,d0,q⟩:=q;refine ⟨c+d,ω,fun n=>?_⟩;have:=p n;have:=q n;rw [Int.add_mul,Int.add_mul,Int.add_mul]
 show _<=4096*(s n+t n)/\4096*(s n+t n)<=_
 omega
theorem HK.sub {k:Nat} {s t:Nat->Int} {l h l' h':Int} (p:HK k s l h) (q:HK k t l' h'):HK k (fun n=>s n - t n) (l - h') (h - l'):=by
 obtain ⟨c,c0,p⟩:=p;obtain ⟨d,d0,q⟩:=q;refine ⟨c+d,ω,fun n=>?_⟩;have:=p n;have:=q n;rw [Int.sub_mul,Int.sub_mul,Int.add_mul]
 show _<=4096*(s n - t n)/\4096*(s n - t n)<=_
 omega
theorem Dx {X lo hi e:Int} (h:lo<=hi) (he:0<=e) (h1:lo - e<=X) (h2:X<=hi+e):∃ x,lo<=x/\x<=hi/\-e<=X - x/\X - x<=e:=by
 by_cases c1:X<lo
 ·exact ⟨lo,ω,h,ω,ω⟩
 by_cases c2:hi<X
 ·exact ⟨hi,h,ω,ω,ω⟩
 exact ⟨X,ω,ω,ω,ω⟩
theorem xX {x l h:Int} (y:Int) (h1:l<=x) (h2:x<=h):min (l*y) (h*y)<=x*y/\x*y<=max (l*y) (h*y):=by
 rcases Int.le_total 0 y with q | q
 ·have:=Int.mul_le_mul_of_nonneg_right h1 q
  have:=Int.mul_le_mul_of_nonneg_right h2 q;omega
 have:=Int.mul_le_mul_of_nonpos_right h1 q;have:=Int.mul_le_mul_of_nonpos_right h2 q;omega
theorem Fa {x y a b c d:Int} (h1:a<=x) (h2:x<=b) (h3:c<=y) (h4:y<=d):cO a b c d<=x*y/\x*y<=cN a b c d:=by
 have q:=xX y h1 h2;have p1:=xX a h3 h4;have p2:=xX b h3 h4;rw [Int.mul_comm c,Int.mul_comm d,Int.mul_comm y] at p1 p2;unfold cO cN;omega
theorem Et {a b c d A B:Int} (hA:0<=A) (hB:0<=B):cO a b c d*(A*B)<=cO (a*A) (b*A) (c*B) (d*B)/\cN (a*A) (b*A) (c*B) (d*B)<=cN a b c d*(A*B):=by
 have hAB:0<=A*B:=Int.mul_nonneg hA hB
 have e:∀ x y:Int,x*A*(y*B)=x*y*(A*B):=fun x y=>φ
 unfold cO cN;rw [e,e,e,e]
 have m1:=fun z (h:min (a*c) (min (a*d) (min (b*c) (b*d)))<=z)=>Int.mul_le_mul_of_nonneg_right h hAB
 have m2:=fun z (h:z<=max (a*c) (max (a*d) (max (b*c) (b*d))))=>Int.mul_le_mul_of_nonneg_right h hAB
 have:=m1 (a*c) ω;have:=m1 (a*d) ω;have:=m1 (b*c) ω;have:=m1 (b*d) ω;have:=m2 (a*c) ω;have:=m2 (a*d) ω;have:=m2 (b*c) ω;have:=m2 (b*d) ω;omega
theorem CO {x l h:Int} (h1:l<=x) (h2:x<=h) {A:Int} (hA:0<=A) {a b:Int} (e1:l=a*A) (e2:h=b*A):-(((a.natAbs+b.natAbs:Nat):Int)*A)<=x/\x<=((a.natAbs+b.natAbs:Nat):Int)*A:=by
 have q1:-((a.natAbs+b.natAbs:Nat):Int)*A<=a*A:=Int.mul_le_mul_of_nonneg_right ω hA;have q2:b*A<=((a.natAbs+b.natAbs:Nat):Int)*A:=Int.mul_le_mul_of_nonneg_right ω hA;rw [Int.neg_mul] at q1;omega
theorem Dv {s t a b c d e f Q P:Int} (hQ:1<=Q) (hP:1<=P) (hab:a<=b) (hcd:c<=d) (he:0<=e) (hf:0<=f) (h1:a*Q - e<=4096*s) (h2:4096*s<=b*Q+e) (h3:c*(P*Q) - f*P<=4096*t) (h4:4096*t<=d*(P*Q)+f*P) :
  ∃ C:Int,C=e*(((c.natAbs+d.natAbs:Nat):Int)+f)+((a.natAbs+b.natAbs:Nat):Int)*f/\cO a b c d / 4096*(P*Q*Q) - C*(P*Q)<=4096*(s*t)/\4096*(s*t)<=-(-cN a b c d / 4096)*(P*Q*Q)+C*(P*Q):=by
 refine ⟨_,rfl,?_⟩;have hPQ:1<=P*Q:=Int.le_trans δ (Int.mul_le_mul hP hQ δ ω)
 have RM:0<=P*Q:=ω
 have hfP:0<=f*P:=Int.mul_nonneg hf ω;obtain ⟨x,x1,x2,x3,x4⟩:=Dx (Int.mul_le_mul_of_nonneg_right hab (show 0<=Q by omega)) he h1 h2;obtain ⟨y,y1,y2,y3,y4⟩:=Dx (Int.mul_le_mul_of_nonneg_right hcd RM) hfP h3 h4;obtain ⟨g1,g2⟩:=Fa x1 x2 y1 y2;obtain ⟨k1,k2⟩:=Et (a:=a) (b:=b) (c:=c) (d:=d) (show 0<=Q by omega) RM;obtain ⟨b1,b2⟩:=CO x1 x2 (show 0<=Q by omega) rfl rfl;obtain ⟨b3,b4⟩:=CO y1 y2 RM rfl rfl
 have Wx:f*P<=f*(P*Q):=by
  refine Int.mul_le_mul_of_nonneg_left ?_ hf;have:=Int.mul_le_mul_of_nonneg_left hQ (show 0<=P by omega)
  rwa [Int.mul_one] at this
 generalize hu:((a.natAbs+b.natAbs:Nat):Int)=u at *;generalize hv:((c.natAbs+d.natAbs:Nat):Int)=v at *;have e1:=aH (x:=4096*s - x) (y:=4096*t) (m:=e) (n:=(v+f)*(P*Q)) x3 x4 (by rw [Int.add_mul];omega) (by rw [Int.add_mul];omega);have e2:=aH (x:=x) (y:=4096*t - y) (m:=u*Q) (n:=f*P) b1 b2 y3 y4
 have e3:4096*(4096*(s*t))=(4096*s - x)*(4096*t)+x*(4096*t - y)+x*y:=φ
 have e4:(e*(v+f)+u*f)*(P*Q)=e*((v+f)*(P*Q))+u*Q*(f*P):=φ
 have e5:Q*(P*Q)=P*Q*Q:=φ
 rw [e5] at k1 k2;rw [e4];generalize x*(4096*t - y)=z2,(4096*s - x)*(4096*t)=z1,u*Q*(f*P)=E2,e*((v+f)*(P*Q))=E1 at *;have Wr:0<=P*Q*Q:=Int.mul_nonneg RM ω;generalize cN a b c d=T2,cO a b c d=T1 at *;have t1:4096*(T1 / 4096)*(P*Q*Q)<=T1*(P*Q*Q):=Int.mul_le_mul_of_nonneg_right ω Wr;have t2:T2*(P*Q*Q)<=4096*(-(-T2 / 4096))*(P*Q*Q):=Int.mul_le_mul_of_nonneg_right ω Wr;rw [Int.mul_assoc 4096 (T1 / 4096)] at t1;rw [Int.mul_assoc 4096 (-(-T2 / 4096))] at t2;generalize x*y=xy,s*t=st,T2*(P*Q*Q)=w4,T1*(P*Q*Q)=w3,-(-T2 / 4096)*(P*Q*Q)=w2,T1 / 4096*(P*Q*Q)=w1 at *;omega
theorem HK.valid {k:Nat} {s:Nat->Int} {l h:Int} (p:HK k s l h):l<=h:=by
 obtain ⟨c,c0,p⟩:=p
 have:=Fh (x:=l - h) (c:=2*c) fun n=>by
  have q:=p n;have hp:=xn n k;generalize ((4:Int) ^ n) ^ k=P at *
  have e:(l - h)*4 ^ n*P<=2*c*P:=by
   have:(l - h)*4 ^ n*P=l*(P*4 ^ n) - h*(P*4 ^ n):=φ
   rw [this,Int.mul_assoc];omega
  exact Int.le_of_mul_le_mul_right e ω
 omega
theorem HK.mul {k:Nat} {s t:Nat->Int} {a b c d:Int} (p:LO s a b) (q:HK k t c d):HK (k+1) (fun n=>s n*t n) (cO a b c d / 4096) (-(-cN a b c d / 4096)):=by
 have hab:=p.valid;have hcd:=q.valid;obtain ⟨e,e0,p⟩:=HK.of p;obtain ⟨f,f0,q⟩:=q;refine ⟨e*(((c.natAbs+d.natAbs:Nat):Int)+f)+((a.natAbs+b.natAbs:Nat):Int)*f,?_,fun n=>?_⟩
 ·have:=Int.mul_nonneg e0 (show 0<=((c.natAbs+d.natAbs:Nat):Int)+f by omega)
  have:=Int.mul_nonneg (show 0<=((a.natAbs+b.natAbs:Nat):Int) by omega) f0;omega
 have p1:=p n;rw [Int.pow_zero,Int.one_mul,Int.mul_one] at p1;obtain ⟨C,hC,r⟩:=Dv (gp n) (xn n k) hab hcd e0 f0 p1.1 p1.2 (q n).1 (q n).2;rw [hC] at r;rw [Int.pow_succ];exact r
theorem HK.small {k:Nat} {s:Nat->Int} {l h c:Int} {x:Int} (hx:x≠0) (p:HK k s l h) (q:∀ n:Nat,-(c*(4 ^ n) ^ k)<=x*s n/\x*s n<=c*(4 ^ n) ^ k):l<=0:=by
 obtain ⟨d,d0,p⟩:=p
 refine Fh (c:=4096*(c.natAbs:Int)+d) fun n=>?_
 have p1:=(p n).1;have q1:=q n;have hp:=xn n k;generalize ((4:Int) ^ n) ^ k=P at *;have hc:c*P<=(c.natAbs:Int)*P:=Int.mul_le_mul_of_nonneg_right ω ω
 have hs:s n<=(c.natAbs:Int)*P:=by
  rcases Int.lt_or_le 0 (s n) with h1 | h1
  ·rcases Int.lt_or_le 0 x with h2 | h2
   ·have:=Int.mul_le_mul_of_nonneg_right (show 1<=x by omega) (show 0<=s n by omega)
    omega
   have:=Int.mul_le_mul_of_nonneg_right (show x<=-1 by omega) (show 0<=s n by omega);omega
  have:=Int.mul_nonneg (show 0<=(c.natAbs:Int) by omega) (show 0<=P by omega);omega
 have e:l*4 ^ n*P<=(4096*(c.natAbs:Int)+d)*P:=by
  have e1:l*4 ^ n*P=l*(P*4 ^ n):=φ
  rw [e1,Int.add_mul,Int.mul_assoc];omega
 exact Int.le_of_mul_le_mul_right e ω
end M
end
section
open Go.RowKit open Gr M Rg Rw Wh
theorem YZ {p:Prop} (h:p:=by
 intro _ zZ w_ hB hr
 have e32:zZ.tmps[32]?=some (.bool (((!i1) || (!i2)) || (!i4))):=Rg.A_ (hr 32 δ)
 refine Rg.Om rfl (Rg.L8 rfl e32) fun KZ=>?_
 rw [KZ] at e32;have e3:zZ.tmps[3]?=some (.pointer (some ⟨w.heap.size+1,0,none⟩)):=hr 3 δ;exact aS (cR rfl (Rg.L8 rfl e32)) γ):p:=h
theorem Qf {p:Prop} (h:p:=by rintro e w5 ⟨rfl,rfl⟩;exact ⟨_,rfl,rfl,KS _ _⟩):p:=h
theorem M.Ff (x y:Int):M.gcd (x.natAbs:Int) y=M.gcd x y:=by unfold M.gcd Int.gcd;rw [Int.natAbs_natCast]
theorem I2 (a b X Y E:Int) (w:World) (hgd:M.good a b=true) :
  cB 101 #[.agg #[a,b],.agg #[X,Y,E]] w (aV a b X Y E):=by
 obtain ⟨wc,hw3,C,Q,B⟩:=dQ w #[a,b] 24 #[X,Y,E] 47;have ⟨q0,q1,q2⟩:=Q.aM;have f_:=C.box.c0;have j_:=C.box.c1;obtain ⟨ha1,ha2,hb1,hb2⟩:=ag (ae hgd)
 by_cases hE:E=0
 ·subst hE
  have hr:=KO (show aV a b X Y 0=(decide (X=0) && decide (Y=0)) by unfold aV;rw [if_pos rfl]);rw [hr.out]
  by_cases hX:X=0
  ·by_cases hY:Y=0
   ·subst hX hY
    go_enter func101,ntmps101
    go_wp2;go_ret;exact ⟨rfl,B⟩
   have hY0:(Y == 0)=false:=by rw [beq_eq_false_iff_ne];exact hY
   subst hX;go_enter func101,ntmps101
   go_wp2;go_ret;exact ⟨by simp [hY],B⟩
  have hX0:(X == 0)=false:=by rw [beq_eq_false_iff_ne];exact hX
  go_enter func101,ntmps101
  go_wp2;go_ret;exact ⟨by simp [hX],B⟩
 have hE0:(E == 0)=false:=by rw [beq_eq_false_iff_ne];exact hE
 have hpt:aV a b X Y E=(M.ins X (-10000) 10000 && M.ins E 1 20 && (M.gcd X E == 1) && decide (Y*Y=M.cv a b X E)):=by unfold aV;rw [if_neg hE]
 have P1:=fun W=>eW X (-10000) 10000 W
 have P2:=fun W=>eW E 1 20 W
 have P4:=fun W=>eW Y (-10000000) 10000000 W
 have hgb:=fun h=>jR (n:=X) (lo:=-10000) (hi:=10000) h
 have hge:=fun h=>jR (n:=E) (lo:=1) (hi:=20) h
 have hyb:=fun h=>G0 (Y:=Y) (v:=M.cv a b X E) h
 have QQ:M.ins Y (-10000000) 10000000=true ↔ (-10000000<=Y/\Y<=10000000):=by unfold M.ins;simp
 have hcb:=fun h1 h2=>rh (a:=a) (b:=b) (x:=X) (e:=E) ha1 ha2 ω ω (hgb h1).1 (hgb h1).2 (by have:=(hge h2).1;omega) (hge h2).2
 have PV:=fun h1 h2 W=>sY a b X E W ha1 ha2 ω ω (hgb h1).1 (hgb h1).2 (by have:=(hge h2).1;omega) (hge h2).2
 have PA:=fun h1 W=>eP X W (by have:=hgb h1;omega) (by have:=hgb h1;omega)
 have PG:=fun (h1:M.ins X (-10000) 10000=true) (h2:M.ins E 1 20=true) W=>eU (X.natAbs:Int) E W ω (by have:=hgb h1;omega) (by have:=hge h2;omega) (by have:=hge h2;omega)
 simp only [Ff] at PG;generalize M.cv a b X E=v,M.ins Y (-10000000) 10000000=i4,M.ins E 1 20=i2,M.ins X (-10000) 10000=i1,M.gcd X E=gg at *
 have hno:((((!i1) || (!i2)) || (!i4)) || (!(gg == 1)))=true->aV a b X Y E=false:=by
  intro h;rw [hpt];cases i1
  ·rfl
  cases i2
  ·rfl
  have hcb:=hcb rfl rfl;cases i4
  ·simp only [Bool.and_eq_false_iff,decide_eq_false_iff_not]
   right
   intro Ni;have q:=hyb Ni ω;have:=QQ.2 ω;cases this
  cases hg:(gg == 1)
  ·rfl
  rw [hg] at h;cases h
 have hyes:((((!i1) || (!i2)) || (!i4)) || (!(gg == 1)))=false->(i1=true/\i2=true/\i4=true)/\aV a b X Y E=decide (Y*Y=v):=by
  intro h;rw [hpt]
  revert h
  cases i1 <;> cases i2 <;> cases i4 <;> cases (gg == 1) <;> simp
 clear hgb hge hyb hpt hcb;replace P1:=KO P1;replace P2:=KO P2;replace P4:=KO P4;replace PA:=KO PA;replace PG:=KO PG;replace PV:=KO PV;replace hno:=KO hno;replace hyes:=KO hyes;replace QQ:=KO QQ;go_enter func101,ntmps101
 go_wp2
 go_upto_region 3 with fail
 refine be 25 [.is (.pointer (some ⟨w.heap.size+1,0,none⟩)),.is X,.is i1,.is (.bool (!i1)),.is (.bool (!i1)),.is (bif (!i1) then undef else .pointer (some ⟨w.heap.size+1,2,none⟩)),.is (bif (!i1) then undef else .int .i64 E),.is (bif (!i1) then undef else .bool i2),.is (bif (!i1) then undef else .bool (!i2)),.is (.bool ((!i1) || (!i2))),.is (.bool ((!i1) || (!i2))),.is (bif ((!i1) || (!i2)) then undef else .pointer (some ⟨w.heap.size+1,1,none⟩)),.is (bif ((!i1) || (!i2)) then undef else .int .i64 Y),.is (bif ((!i1) || (!i2)) then undef else .bool i4),.is (bif ((!i1) || (!i2)) then undef else .bool (!i4)),.is (.bool (((!i1) || (!i2)) || (!i4))),.is (.bool (((!i1) || (!i2)) || (!i4))),.is (bif (((!i1) || (!i2)) || (!i4)) then undef else .pointer (some ⟨w.heap.size+1,0,none⟩)),.is (bif (((!i1) || (!i2)) || (!i4)) then undef else .int .i64 X),.is (bif (((!i1) || (!i2)) || (!i4)) then undef else .int .i64 (X.natAbs:Int)),.is (bif (((!i1) || (!i2)) || (!i4)) then undef else .pointer (some ⟨w.heap.size+1,2,none⟩)),.is (bif (((!i1) || (!i2)) || (!i4)) then undef else .int .i64 E),.is (bif (((!i1) || (!i2)) || (!i4)) then undef else .int .i64 gg),.is (bif (((!i1) || (!i2)) || (!i4)) then undef else .bool (!(gg == 1))),.is (.bool ((((!i1) || (!i2)) || (!i4)) || (!(gg == 1))))] κ κ κ ⟨?_,?_,?_,?_,?_,?_,?_,?_,?_,?_,?_,?_,?_,?_,?_,?_,?_,?_,?_,?_,?_,?_,?_,?_,?_,trivial⟩ ?_
 ·exact NF
 ·refine Rg.b1 ?_;intro zZ w_ hB e
  have k0:=aE hB Q.aM.1;go_simp
 ·refine Rg.o1 ?_;intro zZ w_ hB e
  have ec:=Rg.ec zZ;have ef:=Rg.ef zZ;refine aj rfl τ ?_;refine (P1.out _).mono ?_;exact Qf
 ·exact NF
 ·exact NF
 ·intro _ zZ w_ hB hr
  have e20:zZ.tmps[20]?=some (.bool (!i1)):=Rg.A_ (hr 20 δ)
  refine Rg.Om rfl (Rg.L8 rfl e20) fun KZ=>?_
  rw [KZ] at e20;have e3:zZ.tmps[3]?=some (.pointer (some ⟨w.heap.size+1,0,none⟩)):=hr 3 δ;exact aS (cR rfl (Rg.L8 rfl e20)) γ
 ·intro _ zZ w_ hB hr
  have e20:zZ.tmps[20]?=some (.bool (!i1)):=Rg.A_ (hr 20 δ)
  refine Rg.Om rfl (Rg.L8 rfl e20) fun KZ=>?_
  rw [KZ] at e20
  have e21:zZ.tmps[21]?=some (.pointer (some ⟨w.heap.size+1,2,none⟩)):=by have h_:=Rg.A_ (hr 21 δ);rw [KZ] at h_;exact h_
  have k2:=aE hB Q.aM.2.2;exact aS (cR rfl (Rg.L8 rfl e20)) γ
 ·intro _ zZ w_ hB hr
  have e20:zZ.tmps[20]?=some (.bool (!i1)):=Rg.A_ (hr 20 δ)
  refine Rg.Om rfl (Rg.L8 rfl e20) fun KZ=>?_
  rw [KZ] at e20
  have e22:zZ.tmps[22]?=some (.int .i64 E):=by have h_:=Rg.A_ (hr 22 δ);rw [KZ] at h_;exact h_
  have ec:=Rg.ec zZ;have ef:=Rg.ef zZ;refine aj (cR rfl (Rg.L8 rfl e20)) τ ?_;refine (P2.out _).mono ?_;exact Qf
 ·intro _ zZ w_ hB hr
  have e20:zZ.tmps[20]?=some (.bool (!i1)):=Rg.A_ (hr 20 δ)
  refine Rg.Om rfl (Rg.L8 rfl e20) fun KZ=>?_
  rw [KZ] at e20
  have e23:zZ.tmps[23]?=some (.bool i2):=by have h_:=Rg.A_ (hr 23 δ);rw [KZ] at h_;exact h_
  exact aS (cR rfl (Rg.L8 rfl e20)) γ
 ·intro _ zZ w_ hB hr
  have e20:zZ.tmps[20]?=some (.bool (!i1)):=Rg.A_ (hr 20 δ);have e24:zZ.tmps[24]?=some (bif (!i1) then undef else .bool (!i2)):=Rg.A_ (hr 24 δ);have ec:=Rg.ec zZ;generalize (!i1)=c_ at e20 e24 ⊢
  cases c_ <;> exact aS rfl γ
 ·exact NF
 ·intro _ zZ w_ hB hr
  have e26:zZ.tmps[26]?=some (.bool ((!i1) || (!i2))):=Rg.A_ (hr 26 δ)
  refine Rg.Om rfl (Rg.L8 rfl e26) fun KZ=>?_
  rw [KZ] at e26;have e3:zZ.tmps[3]?=some (.pointer (some ⟨w.heap.size+1,0,none⟩)):=hr 3 δ;exact aS (cR rfl (Rg.L8 rfl e26)) γ
 ·intro _ zZ w_ hB hr
  have e26:zZ.tmps[26]?=some (.bool ((!i1) || (!i2))):=Rg.A_ (hr 26 δ)
  refine Rg.Om rfl (Rg.L8 rfl e26) fun KZ=>?_
  rw [KZ] at e26
  have e27:zZ.tmps[27]?=some (.pointer (some ⟨w.heap.size+1,1,none⟩)):=by have h_:=Rg.A_ (hr 27 δ);rw [KZ] at h_;exact h_
  have k1:=aE hB Q.aM.2.1;exact aS (cR rfl (Rg.L8 rfl e26)) γ
 ·intro _ zZ w_ hB hr
  have e26:zZ.tmps[26]?=some (.bool ((!i1) || (!i2))):=Rg.A_ (hr 26 δ)
  refine Rg.Om rfl (Rg.L8 rfl e26) fun KZ=>?_
  rw [KZ] at e26
  have e28:zZ.tmps[28]?=some (.int .i64 Y):=by have h_:=Rg.A_ (hr 28 δ);rw [KZ] at h_;exact h_
  have ec:=Rg.ec zZ;have ef:=Rg.ef zZ;refine aj (cR rfl (Rg.L8 rfl e26)) τ ?_;refine (P4.out _).mono ?_;exact Qf
 ·intro _ zZ w_ hB hr
  have e26:zZ.tmps[26]?=some (.bool ((!i1) || (!i2))):=Rg.A_ (hr 26 δ)
  refine Rg.Om rfl (Rg.L8 rfl e26) fun KZ=>?_
  rw [KZ] at e26
  have e29:zZ.tmps[29]?=some (.bool i4):=by have h_:=Rg.A_ (hr 29 δ);rw [KZ] at h_;exact h_
  exact aS (cR rfl (Rg.L8 rfl e26)) γ
 ·intro _ zZ w_ hB hr
  have e26:zZ.tmps[26]?=some (.bool ((!i1) || (!i2))):=Rg.A_ (hr 26 δ);have e30:zZ.tmps[30]?=some (bif ((!i1) || (!i2)) then undef else .bool (!i4)):=Rg.A_ (hr 30 δ);have ec:=Rg.ec zZ;generalize ((!i1) || (!i2))=c_ at e26 e30 ⊢
  cases c_ <;> exact aS rfl γ
 ·exact NF
 ·exact YZ
 ·intro _ zZ w_ hB hr
  have e32:zZ.tmps[32]?=some (.bool (((!i1) || (!i2)) || (!i4))):=Rg.A_ (hr 32 δ)
  refine Rg.Om rfl (Rg.L8 rfl e32) fun KZ=>?_
  rw [KZ] at e32
  have e33:zZ.tmps[33]?=some (.pointer (some ⟨w.heap.size+1,0,none⟩)):=by have h_:=Rg.A_ (hr 33 δ);rw [KZ] at h_;exact h_
  have k0:=aE hB Q.aM.1;exact aS (cR rfl (Rg.L8 rfl e32)) γ
 ·intro _ zZ w_ hB hr
  have e32:zZ.tmps[32]?=some (.bool (((!i1) || (!i2)) || (!i4))):=Rg.A_ (hr 32 δ)
  refine Rg.Om rfl (Rg.L8 rfl e32) fun KZ=>?_
  rw [KZ] at e32
  have e34:zZ.tmps[34]?=some (.int .i64 X):=by have h_:=Rg.A_ (hr 34 δ);rw [KZ] at h_;exact h_
  have NI:(i1=true/\i2=true)/\i4=true:=by revert KZ;cases i1 <;> cases i2 <;> cases i4 <;> simp
  have ef:=Rg.ef zZ;refine aj (cR rfl (Rg.L8 rfl e32)) τ ?_;refine (PA.out NI.1.1 _).mono ?_;exact Qf
 ·exact YZ
 ·intro _ zZ w_ hB hr
  have e32:zZ.tmps[32]?=some (.bool (((!i1) || (!i2)) || (!i4))):=Rg.A_ (hr 32 δ)
  refine Rg.Om rfl (Rg.L8 rfl e32) fun KZ=>?_
  rw [KZ] at e32
  have e36:zZ.tmps[36]?=some (.pointer (some ⟨w.heap.size+1,2,none⟩)):=by have h_:=Rg.A_ (hr 36 δ);rw [KZ] at h_;exact h_
  have k2:=aE hB Q.aM.2.2;exact aS (cR rfl (Rg.L8 rfl e32)) γ
 ·intro _ zZ w_ hB hr
  have e32:zZ.tmps[32]?=some (.bool (((!i1) || (!i2)) || (!i4))):=Rg.A_ (hr 32 δ)
  refine Rg.Om rfl (Rg.L8 rfl e32) fun KZ=>?_
  rw [KZ] at e32
  have e35:zZ.tmps[35]?=some (.int .i64 (X.natAbs:Int)):=by have h_:=Rg.A_ (hr 35 δ);rw [KZ] at h_;exact h_
  have e37:zZ.tmps[37]?=some (.int .i64 E):=by have h_:=Rg.A_ (hr 37 δ);rw [KZ] at h_;exact h_
  have NI:(i1=true/\i2=true)/\i4=true:=by revert KZ;cases i1 <;> cases i2 <;> cases i4 <;> simp
  have ef:=Rg.ef zZ;refine aj (cR rfl (Rg.L8 rfl e32)) τ ?_;refine (PG.out NI.1.1 NI.1.2 _).mono ?_;exact Qf
 ·intro _ zZ w_ hB hr
  have e32:zZ.tmps[32]?=some (.bool (((!i1) || (!i2)) || (!i4))):=Rg.A_ (hr 32 δ)
  refine Rg.Om rfl (Rg.L8 rfl e32) fun KZ=>?_
  rw [KZ] at e32
  have e38:zZ.tmps[38]?=some (.int .i64 gg):=by have h_:=Rg.A_ (hr 38 δ);rw [KZ] at h_;exact h_
  have ec:=Rg.ec zZ;exact aS (cR rfl (Rg.L8 rfl e32)) (by go_simp;first | done | rfl | (simp [bne];done))
 ·intro _ zZ w_ hB hr
  have e32:zZ.tmps[32]?=some (.bool (((!i1) || (!i2)) || (!i4))):=Rg.A_ (hr 32 δ);have e39:zZ.tmps[39]?=some (bif (((!i1) || (!i2)) || (!i4)) then undef else .bool (!(gg == 1))):=Rg.A_ (hr 39 δ);have ec:=Rg.ec zZ;generalize (((!i1) || (!i2)) || (!i4))=c_ at e32 e39 ⊢
  cases c_ <;> exact aS rfl γ
 intro vals wz hB hv hne;have v_24:vals 24=.bool ((((!i1) || (!i2)) || (!i4)) || (!(gg == 1))):=hv 24 δ;simp only [bD,Rg.fill,Act.put,Nat.reduceAdd];simp only [v_24];unfold aU;replace ⟨C,Q,B⟩:=Ky hB C Q B
 cases hq:((((!i1) || (!i2)) || (!i4)) || (!(gg == 1))) with
 | true=>
  have hr:=KO (hno.out hq);go_wp2;go_ret;exact ⟨by rw [hr.out];rfl,B⟩
 | false=>
 obtain ⟨⟨j1,j2,j4⟩,hr⟩:=hyes.out hq;have PV:=KO (PV.out j1 j2);obtain ⟨y1,y2⟩:=QQ.out.1 j4;have Ni:=aH (x:=Y) (y:=Y) (m:=10000000) (n:=10000000);replace hr:=KO hr
 go_upto_region 5 with fail
 refine be 13 [.is (.pointer (some ⟨w.heap.size+1,1,none⟩)),.is Y,.is (.pointer (some ⟨w.heap.size+1,1,none⟩)),.is Y,.is (Y*Y:Int),.is (.agg #[a,b]),.is (.pointer (some ⟨w.heap.size+1,0,none⟩)),.is X,.is (.pointer (some ⟨w.heap.size+1,2,none⟩)),.is E,.is v,.is (decide (Y*Y=v)),.is (decide (Y*Y=v))] κ κ κ ⟨?_,?_,?_,?_,?_,?_,?_,?_,?_,?_,?_,?_,?_,trivial⟩ ?_
 all_goals try ((first | (refine Rg.b1 ?_;intro zZ w_ hB e) | (refine Rg.b2 ?_;intro zZ w_ hB e f));have kz:=aE hB Q.aM.2.1;have kz:=aE hB C.box.c0;have kz:=aE hB C.box.c1;have kz:=aE hB Q.aM.1;have kz:=aE hB Q.aM.2.2;(first | (go_simp;done) | (go_simp;exact Rg.wo ω) | (go_simp;first | done | rfl | (by_cases Ke:Y*Y=v <;> simp [Ke];done);done)))
 ·intro _ zZ w_ hB hr
  have e46:=Rg.A_ (hr 46 δ);have e48:=Rg.A_ (hr 48 δ);have e50:=Rg.A_ (hr 50 δ);have ef:=Rg.ef zZ;exact bO rfl γ (PV.out _)
 intro vals wy Qn hv hne;have L6:vals 12=.bool (decide (Y*Y=v)):=hv 12 δ;simp only [bD,Rg.fill,Act.put,Nat.reduceAdd];simp only [L6];unfold aU;go_wp2;go_ret;exact ⟨by rw [hr.out];rfl,p_ B Qn⟩
theorem jb (a b X Y E:Int) (w:World) :
  cB 52 #[.agg #[a,b],.agg #[X,Y,E]] w (M.good a b && aV a b X Y E):=by
 have PC:=fun W=>jo a b W
 have PO:=fun W=>I2 a b X Y E W
 obtain ⟨wc,hw3,C,Q,B⟩:=dQ w #[a,b] 24 #[X,Y,E] 47;have ⟨q0,q1,q2⟩:=Q.aM;have f_:=C.box.c0;have j_:=C.box.c1
 cases hgd:M.good a b with
 | false=>
  rw [hgd] at PC;have PC:=KO PC;go_enter func52,ntmps52
  exact Ul
 | true=>
 rw [hgd] at PC;have PC:=KO PC
 have PO:=fun W=>PO W hgd
 generalize aV a b X Y E=pp at *;have PO:=KO PO;go_enter func52,ntmps52
 go_wp2_with (first
  | (with_reducible refine G_ PC fun w4 hb4=>?_;replace ⟨C,B,Q⟩:=Ky hb4 C B Q;(have ⟨z0,z1,z2⟩:=Q.aM);(replace ⟨f_,j_⟩:=C.b2))
  | (with_reducible refine G_ PO fun w5 hb5=>?_;replace B:=p_ B hb5))
 go_ret;exact ⟨rfl,B⟩
theorem qr (X Y E:Int) (w:World) (h1:-4000000000000000000<=Y) (h2:Y<=4000000000000000000) :
  cB 126 #[.agg #[X,Y,E]] w (.agg #[X,(-Y:Int),E]):=by
 go_enter func126,ntmps126
 go_wp2;exact KU results126 ⟨rfl,LV⟩
theorem ZC {p:Prop} (h:p:=by
 rcases Classical.em (X1=X2) with h1 | h1
 ·rcases Classical.em (Y1=Y2) with h2 | h2
  ·exact Or.inr (Or.inr fun h3=>Nb ⟨h1,h2,h3⟩)
  exact Or.inr (Or.inl h2)
 exact Or.inl h1):p:=h
namespace M
def sN (a X1 Y1 E1 X2 Y2 E2:Int):Int:=if X1=X2/\Y1=Y2/\E1=E2 then 3*X1*X1+a*E1*E1*E1*E1 else Y2*E1*E1*E1 - Y1*E2*E2*E2
def sD (X1 Y1 E1 X2 Y2 E2:Int):Int:=if X1=X2/\Y1=Y2/\E1=E2 then 2*Y1*E1 else E1*E2*(X2*E1*E1 - X1*E2*E2)
end M
theorem M.I9 {a X1 Y1 E1 X2 Y2 E2:Int} (ha1:-1000<=a) (ha2:a<=1000) (hx1:-10000<=X1) (hx2:X1<=10000) (hy1:-3000000<=Y1) (hy2:Y1<=3000000) (he1:1<=E1) (he2:E1<=20) (hx3:-10000<=X2) (hx4:X2<=10000) (hy3:-3000000<=Y2) (hy4:Y2<=3000000) (NH:1<=E2) (Nu:E2<=20):-200000000000<=M.sN a X1 Y1 E1 X2 Y2 E2/\M.sN a X1 Y1 E1 X2 Y2 E2<=200000000000/\-200000000000<=M.sD X1 Y1 E1 X2 Y2 E2/\M.sD X1 Y1 E1 X2 Y2 E2<=200000000000:=by
 have sb1:=aH (x:=Y2) (y:=E1) (m:=3000000) (n:=20);have sb2:=aH (x:=Y2*E1) (y:=E1) (m:=60000000) (n:=20);have sb3:=aH (x:=Y2*E1*E1) (y:=E1) (m:=1200000000) (n:=20);have sb4:=aH (x:=Y1) (y:=E2) (m:=3000000) (n:=20);have sb5:=aH (x:=Y1*E2) (y:=E2) (m:=60000000) (n:=20);have sb6:=aH (x:=Y1*E2*E2) (y:=E2) (m:=1200000000) (n:=20);have sb7:=aH (x:=E1) (y:=E2) (m:=20) (n:=20);have sb8:=aH (x:=X2) (y:=E1) (m:=10000) (n:=20);have sb9:=aH (x:=X2*E1) (y:=E1) (m:=200000) (n:=20);have Rj:=aH (x:=X1) (y:=E2) (m:=10000) (n:=20);have Rk:=aH (x:=X1*E2) (y:=E2) (m:=200000) (n:=20);have Rl:=aH (x:=E1*E2) (y:=X2*E1*E1 - X1*E2*E2) (m:=400) (n:=8000000);have Rm:=aH (x:=3) (y:=X1) (m:=3) (n:=10000);have Rn:=aH (x:=3*X1) (y:=X1) (m:=30000) (n:=10000);have Ro:=aH (x:=a) (y:=E1) (m:=1000) (n:=20);have Rp:=aH (x:=a*E1) (y:=E1) (m:=20000) (n:=20);have UQ:=aH (x:=a*E1*E1) (y:=E1) (m:=400000) (n:=20);have UR:=aH (x:=a*E1*E1*E1) (y:=E1) (m:=8000000) (n:=20);have US:=aH (x:=2) (y:=Y1) (m:=2) (n:=3000000);have UT:=aH (x:=2*Y1) (y:=E1) (m:=6000000) (n:=20);unfold M.sN M.sD
 split <;> omega
theorem Gk (a b X1 Y1 E1 X2 Y2 E2:Int) (w:World) (ha1:-1000<=a) (ha2:a<=1000) (hx1:-10000<=X1) (hx2:X1<=10000) (hy1:-3000000<=Y1) (hy2:Y1<=3000000) (he1:1<=E1) (he2:E1<=20) (hx3:-10000<=X2) (hx4:X2<=10000) (hy3:-3000000<=Y2) (hy4:Y2<=3000000) (NH:1<=E2) (Nu:E2<=20) :
  cB 128 #[.agg #[a,b],.agg #[X1,Y1,E1],.agg #[X2,Y2,E2]] w (.tuple #[M.sN a X1 Y1 E1 X2 Y2 E2,M.sD X1 Y1 E1 X2 Y2 E2]):=by
 have hcase:(X1=X2/\Y1=Y2/\E1=E2)∨¬ (X1=X2/\Y1=Y2/\E1=E2):=Classical.em _
 rcases hcase with hsame | Nb
 ·have e1:=KO (show M.sN a X1 Y1 E1 X2 Y2 E2=3*X1*X1+a*E1*E1*E1*E1 from if_pos hsame)
  have e2:=KO (show M.sD X1 Y1 E1 X2 Y2 E2=2*Y1*E1 from if_pos hsame);rw [e1.out,e2.out];obtain ⟨rfl,rfl,rfl⟩:=hsame;clear e1 e2 hx3 hx4 hy3 hy4 NH Nu;have UU:=aH (x:=3) (y:=X1) (m:=3) (n:=10000);have UV:=aH (x:=3*X1) (y:=X1) (m:=30000) (n:=10000);have UW:=aH (x:=a) (y:=E1) (m:=1000) (n:=20);have UX:=aH (x:=a*E1) (y:=E1) (m:=20000) (n:=20);have UY:=aH (x:=a*E1*E1) (y:=E1) (m:=400000) (n:=20);have UZ:=aH (x:=a*E1*E1*E1) (y:=E1) (m:=8000000) (n:=20);have Ua:=aH (x:=2) (y:=Y1) (m:=2) (n:=3000000);have Xo:=aH (x:=2*Y1) (y:=E1) (m:=6000000) (n:=20);obtain ⟨wc,hw3,C,Q,U,B⟩:=dF w #[a,b] 24 #[X1,Y1,E1] 47 #[X1,Y1,E1] 47;have ⟨q0,q1,q2⟩:=Q.aM;have ⟨u0,u1,u2⟩:=U.aM;have f_:=C.box.c0;have j_:=C.box.c1;go_enter func128,ntmps128
  go_wp2
  go_upto_region 2 with fail
  refine be 29 [.is (.pointer (some ⟨w.heap.size+1,0,none⟩)),.is X1,.is (3*X1:Int),.is (.pointer (some ⟨w.heap.size+1,0,none⟩)),.is X1,.is ((3*X1)*X1:Int),.is (.pointer (some ⟨w,0,none⟩)),.is a,.is (.pointer (some ⟨w.heap.size+1,2,none⟩)),.is E1,.is (a*E1:Int),.is (.pointer (some ⟨w.heap.size+1,2,none⟩)),.is E1,.is ((a*E1)*E1:Int),.is (.pointer (some ⟨w.heap.size+1,2,none⟩)),.is E1,.is (((a*E1)*E1)*E1:Int),.is (.pointer (some ⟨w.heap.size+1,2,none⟩)),.is E1,.is ((((a*E1)*E1)*E1)*E1:Int),.is (((3*X1)*X1)+((((a*E1)*E1)*E1)*E1):Int),.is (.pointer (some ⟨w.heap.size+1,1,none⟩)),.is Y1,.is (2*Y1:Int),.is (.pointer (some ⟨w.heap.size+1,2,none⟩)),.is E1,.is ((2*Y1)*E1:Int),.is (((3*X1)*X1)+((((a*E1)*E1)*E1)*E1):Int),.is ((2*Y1)*E1:Int)] κ κ κ ⟨?_,?_,?_,?_,?_,?_,?_,?_,?_,?_,?_,?_,?_,?_,?_,?_,?_,?_,?_,?_,?_,?_,?_,?_,?_,?_,?_,?_,?_,trivial⟩ ?_
  all_goals try ((first | (refine Rg.b1 ?_;intro zZ w_ hB e) | (refine Rg.b2 ?_;intro zZ w_ hB e f));have kz:=aE hB Q.aM.1;have ec:=Rg.ec zZ;have kz:=aE hB C.box.c0;have kz:=aE hB Q.aM.2.2;have kz:=aE hB Q.aM.2.1;(first | (go_simp;done) | (go_simp;exact Rg.wo ω)))
  intro vals wz hB hv hne;have Xx:vals 27=.int .i64 (((3*X1)*X1)+((((a*E1)*E1)*E1)*E1)):=hv 27 δ;have Xy:vals 28=.int .i64 ((2*Y1)*E1):=hv 28 δ;simp only [bD,Rg.fill,Act.put,Nat.reduceAdd];clear hv;simp only [Xx,Xy];clear Xx Xy;unfold aU;go_wp2;go_ret2;exact ⟨rfl,p_ B hB⟩
 have e1:=KO (show M.sN a X1 Y1 E1 X2 Y2 E2=Y2*E1*E1*E1 - Y1*E2*E2*E2 from if_neg Nb);have e2:=KO (show M.sD X1 Y1 E1 X2 Y2 E2=E1*E2*(X2*E1*E1 - X1*E2*E2) from if_neg Nb);rw [e1.out,e2.out];clear e1 e2;have sb29:=aH (x:=Y2) (y:=E1) (m:=3000000) (n:=20);have sb30:=aH (x:=Y2*E1) (y:=E1) (m:=60000000) (n:=20);have sb31:=aH (x:=Y2*E1*E1) (y:=E1) (m:=1200000000) (n:=20);have sb32:=aH (x:=Y1) (y:=E2) (m:=3000000) (n:=20);have sb33:=aH (x:=Y1*E2) (y:=E2) (m:=60000000) (n:=20);have sb34:=aH (x:=Y1*E2*E2) (y:=E2) (m:=1200000000) (n:=20);have sb35:=aH (x:=E1) (y:=E2) (m:=20) (n:=20);have sb36:=aH (x:=X2) (y:=E1) (m:=10000) (n:=20);have sb37:=aH (x:=X2*E1) (y:=E1) (m:=200000) (n:=20);have sb38:=aH (x:=X1) (y:=E2) (m:=10000) (n:=20);have sb39:=aH (x:=X1*E2) (y:=E2) (m:=200000) (n:=20);have sb40:=aH (x:=E1*E2) (y:=X2*E1*E1 - X1*E2*E2) (m:=400) (n:=8000000)
 have hne:X1≠X2∨Y1≠Y2∨E1≠E2:=by
  exact ZC
 clear Nb
 have hdec:(decide (X1=X2) && (decide (Y1=Y2) && decide (E1=E2)))=false:=by
  rcases hne with h | h | h <;> simp [h]
 obtain ⟨wc,hw3,C,Q,U,B⟩:=dF w #[a,b] 24 #[X1,Y1,E1] 47 #[X2,Y2,E2] 47;have ⟨q0,q1,q2⟩:=Q.aM;have ⟨u0,u1,u2⟩:=U.aM;have f_:=C.box.c0;have j_:=C.box.c1
 rcases hne with h | h | h
 all_goals
  have hb:=beq_eq_false_iff_ne.2 h;go_enter func128,ntmps128
  go_wp2
  all_goals
   go_ret2;exact ⟨rfl,B⟩
theorem ZV {p:Prop} (h:p:=by
 have PE:=KO PE;go_enter func84,ntmps84
 go_wp2_with (with_reducible refine G_ PE fun w4 hb4=>?_;have B4:=p_ B hb4)
 all_goals
  go_ret2;exact ⟨rfl,B4⟩):p:=h
theorem was5 {p:Prop} (h:p:=by
 rw [if_pos h0,if_pos h0];clear PE;go_enter func84,ntmps84
 go_wp2
 all_goals
  go_ret2;exact ⟨rfl,B⟩):p:=h
namespace M
def Lu (a X1 Y1 E1 X2 Y2 E2:Int):Int:=if sD X1 Y1 E1 X2 Y2 E2=0 then 1 else cM (sN a X1 Y1 E1 X2 Y2 E2) (sD X1 Y1 E1 X2 Y2 E2)
def Le (a X1 Y1 E1 X2 Y2 E2:Int):Int:=if sD X1 Y1 E1 X2 Y2 E2=0 then 0 else bW (sN a X1 Y1 E1 X2 Y2 E2) (sD X1 Y1 E1 X2 Y2 E2)
end M
theorem BR (a b X1 Y1 E1 X2 Y2 E2:Int) (w:World) (ha1:-1000<=a) (ha2:a<=1000) (hx1:-10000<=X1) (hx2:X1<=10000) (hy1:-3000000<=Y1) (hy2:Y1<=3000000) (he1:1<=E1) (he2:E1<=20) (hx3:-10000<=X2) (hx4:X2<=10000) (hy3:-3000000<=Y2) (hy4:Y2<=3000000) (NH:1<=E2) (Nu:E2<=20) :
  cB 84 #[.agg #[a,b],.agg #[X1,Y1,E1],.agg #[X2,Y2,E2]] w (.tuple #[M.Lu a X1 Y1 E1 X2 Y2 E2,M.Le a X1 Y1 E1 X2 Y2 E2]):=by
 have hbd:=I9 (a:=a) ha1 ha2 hx1 hx2 hy1 hy2 he1 he2 hx3 hx4 hy3 hy4 NH Nu
 have PE:=fun (h:M.sD X1 Y1 E1 X2 Y2 E2≠0) W=>mL (M.sN a X1 Y1 E1 X2 Y2 E2) (M.sD X1 Y1 E1 X2 Y2 E2) W ω ω ω ω h
 unfold M.Lu M.Le;have hcase:(X1=X2/\Y1=Y2/\E1=E2)∨¬ (X1=X2/\Y1=Y2/\E1=E2):=Classical.em _
 rcases hcase with hsame | Nb
 ·have e1:=show M.sN a X1 Y1 E1 X2 Y2 E2=3*X1*X1+a*E1*E1*E1*E1 from if_pos hsame
  have e2:=show M.sD X1 Y1 E1 X2 Y2 E2=2*Y1*E1 from if_pos hsame
  rw [e1,e2] at PE hbd;rw [e1,e2];obtain ⟨rfl,rfl,rfl⟩:=hsame;clear e1 e2 hx3 hx4 hy3 hy4 NH Nu;have sb1:=aH (x:=Y1) (y:=E1) (m:=3000000) (n:=20);have sb2:=aH (x:=Y1*E1) (y:=E1) (m:=60000000) (n:=20);have sb3:=aH (x:=Y1*E1*E1) (y:=E1) (m:=1200000000) (n:=20);have sb4:=aH (x:=E1) (y:=E1) (m:=20) (n:=20);have sb5:=aH (x:=X1) (y:=E1) (m:=10000) (n:=20);have sb6:=aH (x:=X1*E1) (y:=E1) (m:=200000) (n:=20);have sb7:=aH (x:=E1*E1) (y:=X1*E1*E1 - X1*E1*E1) (m:=400) (n:=8000000);have sb8:=aH (x:=3) (y:=X1) (m:=3) (n:=10000);have sb9:=aH (x:=3*X1) (y:=X1) (m:=30000) (n:=10000);have Rj:=aH (x:=a) (y:=E1) (m:=1000) (n:=20);have Rk:=aH (x:=a*E1) (y:=E1) (m:=20000) (n:=20);have Rl:=aH (x:=a*E1*E1) (y:=E1) (m:=400000) (n:=20);have Rm:=aH (x:=a*E1*E1*E1) (y:=E1) (m:=8000000) (n:=20);have Rn:=aH (x:=2) (y:=Y1) (m:=2) (n:=3000000);have Ro:=aH (x:=2*Y1) (y:=E1) (m:=6000000) (n:=20);obtain ⟨wc,hw3,C,Q,U,B⟩:=dF w #[a,b] 24 #[X1,Y1,E1] 47 #[X1,Y1,E1] 47;have ⟨q0,q1,q2⟩:=Q.aM;have ⟨u0,u1,u2⟩:=U.aM;have f_:=C.box.c0;have j_:=C.box.c1
  by_cases h0:2*Y1*E1=0
  ·have h1:(2*Y1*E1 == 0)=true:=by rw [beq_iff_eq];exact h0
   exact was5
  have h1:(2*Y1*E1 == 0)=false:=by rw [beq_eq_false_iff_ne];exact h0
  rw [if_neg h0,if_neg h0];have PE:=PE h0;generalize bW (3*X1*X1+a*E1*E1*E1*E1) (2*Y1*E1)=pd,cM (3*X1*X1+a*E1*E1*E1*E1) (2*Y1*E1)=pn at *;exact ZV
 have e1:=show M.sN a X1 Y1 E1 X2 Y2 E2=Y2*E1*E1*E1 - Y1*E2*E2*E2 from if_neg Nb
 have e2:=show M.sD X1 Y1 E1 X2 Y2 E2=E1*E2*(X2*E1*E1 - X1*E2*E2) from if_neg Nb
 rw [e1,e2] at PE hbd;rw [e1,e2];clear e1 e2;have Rp:=aH (x:=Y2) (y:=E1) (m:=3000000) (n:=20);have UQ:=aH (x:=Y2*E1) (y:=E1) (m:=60000000) (n:=20);have UR:=aH (x:=Y2*E1*E1) (y:=E1) (m:=1200000000) (n:=20);have US:=aH (x:=Y1) (y:=E2) (m:=3000000) (n:=20);have UT:=aH (x:=Y1*E2) (y:=E2) (m:=60000000) (n:=20);have UU:=aH (x:=Y1*E2*E2) (y:=E2) (m:=1200000000) (n:=20);have UV:=aH (x:=E1) (y:=E2) (m:=20) (n:=20);have UW:=aH (x:=X2) (y:=E1) (m:=10000) (n:=20);have UX:=aH (x:=X2*E1) (y:=E1) (m:=200000) (n:=20);have UY:=aH (x:=X1) (y:=E2) (m:=10000) (n:=20);have UZ:=aH (x:=X1*E2) (y:=E2) (m:=200000) (n:=20);have Ua:=aH (x:=E1*E2) (y:=X2*E1*E1 - X1*E2*E2) (m:=400) (n:=8000000)
 have hne:X1≠X2∨Y1≠Y2∨E1≠E2:=by
  exact ZC
 clear Nb
 have hdec:(decide (X1=X2) && (decide (Y1=Y2) && decide (E1=E2)))=false:=by
  rcases hne with h | h | h <;> simp [h]
 obtain ⟨wc,hw3,C,Q,U,B⟩:=dF w #[a,b] 24 #[X1,Y1,E1] 47 #[X2,Y2,E2] 47;have ⟨q0,q1,q2⟩:=Q.aM;have ⟨u0,u1,u2⟩:=U.aM;have f_:=C.box.c0;have j_:=C.box.c1
 rcases hne with h | h | h
 all_goals
  have hb:=beq_eq_false_iff_ne.2 h
  by_cases h0:E1*E2*(X2*E1*E1 - X1*E2*E2)=0
  ·have h1:(E1*E2*(X2*E1*E1 - X1*E2*E2) == 0)=true:=by rw [beq_iff_eq];exact h0
   exact was5
  have h1:(E1*E2*(X2*E1*E1 - X1*E2*E2) == 0)=false:=by rw [beq_eq_false_iff_ne];exact h0
  rw [if_neg h0,if_neg h0];have PE:=PE h0;generalize bW (Y2*E1*E1*E1 - Y1*E2*E2*E2) (E1*E2*(X2*E1*E1 - X1*E2*E2))=pd,cM (Y2*E1*E1*E1 - Y1*E2*E2*E2) (E1*E2*(X2*E1*E1 - X1*E2*E2))=pn at *;exact ZV
theorem Yq {p:Prop} (h:p:=by
 intro _ zZ w_ hB hr
 obtain ⟨s23,a23,l23,c23,Tz,e23,Xj⟩:=aK.get (hr 23 δ);have e24:=Rg.A_ (hr 24 δ);have ef:=Rg.ef zZ;obtain rfl:=Tz.out;exact bO rfl γ (Sm.out _ _ _ _ _ Xj (aF.below oa.out hB))):p:=h
theorem U0 {p:Prop} (h:p:=by have ef:=Rg.ef zZ;refine aj rfl τ ?_;exact aK.ret hB (PT1.out _ _ _ (aF.below od.out hB))):p:=h
theorem wat9 {p:Prop} (h:p:=by
 rw [hs.out];clear h1 h2 P1 P2;go_enter func160,ntmps160
 go_wp2;go_ret;exact ⟨rfl,LV⟩):p:=h
theorem pA (a b:Int) (va vb:Value) (w:World) (ba bb:Nat) (hoa:aF w ba va (Wh.a_ a.natAbs)) (LN:aF w bb vb (Wh.a_ b.natAbs)) (hl1:(Wh.a_ a.natAbs).length<=100000) (hl2:(Wh.a_ b.natAbs).length<=100000) :
  cB 160 #[.agg #[decide (a<0),va],.agg #[decide (b<0),vb]] w (.int .i64 (Wh.LY a b)):=by
 obtain ⟨aa,ca,rfl,-,-⟩:=aF.view hoa;obtain ⟨ab,cb,rfl,-,-⟩:=aF.view LN
 have P1:=fun s r W (h1:aF W ba (.slice aa (Wh.a_ a.natAbs).length ca) (Wh.a_ a.natAbs)) (h2:aF W bb (.slice ab (Wh.a_ b.natAbs).length cb) (Wh.a_ b.natAbs))=>gZ a.natAbs b.natAbs s r _ _ W ba bb h1 h2 hl1 hl2
 have P2:=fun s r W (h1:aF W ba (.slice aa (Wh.a_ a.natAbs).length ca) (Wh.a_ a.natAbs)) (h2:aF W bb (.slice ab (Wh.a_ b.natAbs).length cb) (Wh.a_ b.natAbs))=>gZ b.natAbs a.natAbs s r _ _ W bb ba h2 h1 hl2 hl1
 replace hoa:=KO hoa;replace LN:=KO LN;generalize (Wh.a_ b.natAbs).length=lb,(Wh.a_ a.natAbs).length=la at *
 by_cases h1:a<0
 ·by_cases h2:b<0
  ·have hs:=KO (show Wh.LY (b.natAbs:Int) (a.natAbs:Int)=Wh.LY a b by unfold Wh.LY;(repeat' split) <;> omega)
   rw [decide_eq_true h1,decide_eq_true h2];rw [←hs.out];clear h1 h2 P1;replace P2:=KO P2;have hBb:=((KS w w).alloc (KT _) (.cells #[true,.slice aa la ca] 145)).alloc (by rw [KQ];omega) (.cells #[true,.slice ab lb cb] 145);go_enter func160,ntmps160
   go_wp2_with (with_reducible refine Km (P2.out _ _ _ (aF.below hoa.out hBb) (aF.below LN.out hBb)) fun w4 hb4=>?_)
   go_ret;exact ⟨rfl,p_ hBb hb4⟩
  have hs:=KO (show Wh.LY a b=-1 by unfold Wh.LY;(repeat' split) <;> omega);rw [decide_eq_true h1,decide_eq_false h2];exact wat9
 by_cases h2:b<0
 ·have hs:=KO (show Wh.LY a b=1 by unfold Wh.LY;(repeat' split) <;> omega)
  rw [decide_eq_false h1,decide_eq_true h2];exact wat9
 have hs:=KO (show Wh.LY (a.natAbs:Int) (b.natAbs:Int)=Wh.LY a b by unfold Wh.LY;(repeat' split) <;> omega);rw [decide_eq_false h1,decide_eq_false h2];rw [←hs.out];clear h1 h2 P2;replace P1:=KO P1;have hBb:=((KS w w).alloc (KT _) (.cells #[false,.slice aa la ca] 145)).alloc (by rw [KQ];omega) (.cells #[false,.slice ab lb cb] 145);go_enter func160,ntmps160
 go_wp2_with (with_reducible refine Km (P1.out _ _ _ (aF.below hoa.out hBb) (aF.below LN.out hBb)) fun w4 hb4=>?_)
 go_ret;exact ⟨rfl,p_ hBb hb4⟩
namespace M
def sq (A D:Int):Int:=max (-10000) (min 10000 (-(-A / D)))
theorem tE {A D m:Int} (hD:0<D):-(-A / D)<=m ↔ A<=D*m:=by
 have e1:=Int.mul_ediv_add_emod (-A) D;have e2:=Int.emod_nonneg (-A) (by omega:D≠0);have e3:=Int.emod_lt_of_pos (-A) hD;generalize -A / D=q at *
 constructor
 ·intro h
  have:D*(-q)<=D*m:=Int.mul_le_mul_of_nonneg_left h ω;rw [Int.mul_neg] at this;omega
 intro h
 rcases Int.lt_or_le m (-q) with h1 | h1
 ·have:D*(m+1)<=D*(-q):=Int.mul_le_mul_of_nonneg_left ω ω
  rw [Int.mul_neg,Int.mul_add] at this;omega
 exact h1
theorem KH {A D x:Int} (hD:0<D) (h1:-10000<=x) (h2:x<=10000) (h:D*x=A):sq A D=x:=by
 have q1:=(tE (A:=A) (m:=x) hD).2 ω
 have q2:¬ -(-A / D)<=x - 1:=fun h3=>by
  have:=(tE hD).1 h3;rw [Int.mul_sub] at this;omega
 unfold sq;omega
end M
theorem pB (A D:Int) (va vd:Value) (w:World) (ba bd:Nat) (hoa:aF w ba va (Wh.a_ A.natAbs)) (hod:aF w bd vd (Wh.a_ D.natAbs)) (hA:Wh.sz A 1000) (hD:Wh.sz D 1000) (hD0:0<D) :
  cB 133 #[.agg #[decide (A<0),va],.agg #[decide (D<0),vd],(10000:Int)] w (.tuple #[M.sq A D,decide (D*M.sq A D=A)]):=by
 obtain ⟨aa,ca,rfl,-,-⟩:=aF.view hoa;obtain ⟨ad,cd,rfl,-,-⟩:=aF.view hod
 have PT:=fun n (h1:-10000<=n) (h2:n<=10000) v W k (h:aF W k v (Wh.a_ D.natAbs))=>rI D n v W k h (aR.2 (aL hD ω)) ω ω
 have PC:=fun n (h1:-10000<=n) (h2:n<=10000) v v' W k k' (h:aF W k v (Wh.a_ (D*n).natAbs)) (h':aF W k' v' (Wh.a_ A.natAbs))=>pA (D*n) A v v' W k k' h h' (aR.2 (aL (ay hD (bi (n:=n) ω ω)) ω)) (aR.2 (aL hA ω))
 generalize decide (D<0)=s2,decide (A<0)=s1 at *;replace hoa:=KO hoa;replace hod:=KO hod;generalize (Wh.a_ D.natAbs).length=ld,(Wh.a_ A.natAbs).length=la at *;have PT:=KO PT;have PC:=KO PC
 have K8:-10000<=M.sq A D/\M.sq A D<=10000:=by unfold M.sq;omega
 have hcl:=KO fun m=>tE (A:=A) (D:=D) (m:=m) hD0
 have hsd:Hid (M.sq A D=max (-10000) (min 10000 (-(-A / D)))):=KO rfl;generalize M.sq A D=L at *;obtain ⟨wc,hw3,V,U,B⟩:=dQ w #[s1,.slice aa la ca] 145 #[s2,.slice ad ld cd] 145;obtain ⟨l1,l2⟩:=K8;go_enter func133,ntmps133
 go_wp2
 go_loopw [8,9] (fun vl vh wr=>∃ lo hi:Int,vl=.int .i64 lo/\vh=.int .i64 hi/\-10000<=lo/\lo<=L/\L<=hi/\hi<=10000/\aG wr w 145 #[s1,.slice aa la ca]/\aG wr (w.heap.size+1) 145 #[s2,.slice ad ld cd]/\Below w w wr) (fun vl vh _=>(intOf vh - intOf vl).toNat)
 case atStart=>exact ⟨-10000,10000,rfl,rfl,ω,l1,l2,ω,V,U,B⟩
 case round=>
 clear V U B hw3;obtain ⟨lo,hi,rfl,rfl,h1,h2,h3,h4,V,U,B⟩:=hrel;have oa:=KO (aF.below hoa.out B);have od:=KO (aF.below hod.out B)
 by_cases hlt:lo<hi
 ·have hm1:lo<=(lo+hi) / 2:=ω
  have hm2:(lo+hi) / 2<hi:=ω
  have PF:=fun W=>iN (lo+hi) 2 W ω ω ω ω
  have hge:=(hcl.out ((lo+hi) / 2))
  generalize (lo+hi) / 2=m at *;have PF:=KO PF
  have PT1:=KO fun v W k h=>PT.out m ω ω v W k h
  have Sm:=fun v v' W k k' h h'=>PC.out m ω ω v v' W k k' h h'
  have hsg:0<=Wh.LY (D*m) A ↔ A<=D*m:=by unfold Wh.LY;(repeat' split) <;> omega
  have hsn:L<=m ↔ A<=D*m:=by rw [←hge,hsd.out];omega
  generalize Wh.LY (D*m) A=sg at *;have Sm:=KO Sm
  by_cases hL:L<=m
  ·have hs0:0<=sg:=hsg.2 (hsn.1 hL)
   clear hsg hsn hge PC PT
   go_upto_region 4 with (with_reducible refine Kw (PF.out _) ?_)
   refine be 6 [.is (.agg #[s2,.slice ad ld cd]),.is m,.at (aK (wr.heap.size) (D*m)),.is (.agg #[s1,.slice aa la ca]),.is sg,.is true] κ κ κ ⟨?_,?_,?_,?_,?_,?_,trivial⟩ ?_
   all_goals try ((refine Rg.b1 ?_;intro zZ w_ hB e);have kz:=aE hB U.box.c0;have kz:=aE hB U.box.c1;have kz:=aE hB V.box.c0;have kz:=aE hB V.box.c1;have ec:=Rg.ec zZ;(first | (go_simp;done) | (go_simp;first | done | omega | (simp;omega);done)))
   ·intro _ zZ w_ hB hr
    have e21:=Rg.A_ (hr 21 δ);have e22:=Rg.A_ (hr 22 δ);exact U0
   ·exact Yq
   intro vals wz hB hv hne;have Ow:vals 5=.bool true:=hv 5 δ;simp only [bD,Rg.fill,Act.put,Nat.reduceAdd];clear hv;simp only [Ow];clear Ow;replace ⟨V,U,B⟩:=Ky hB V U B;clear hB;unfold aU;go_wp2
   go_roundw
   case rel=>exact ⟨lo,m,rfl,rfl,h1,h2,hL,ω,V,U,B⟩
   case measure=>simp [intOf] <;> omega
  have hs0:¬ 0<=sg:=fun h=>hL (hsn.2 (hsg.1 h))
  clear hsg hsn hge PC PT
  go_upto_region 4 with (with_reducible refine Kw (PF.out _) ?_)
  refine be 6 [.is (.agg #[s2,.slice ad ld cd]),.is m,.at (aK (wr.heap.size) (D*m)),.is (.agg #[s1,.slice aa la ca]),.is sg,.is false] κ κ κ ⟨?_,?_,?_,?_,?_,?_,trivial⟩ ?_
  all_goals try ((refine Rg.b1 ?_;intro zZ w_ hB e);have kz:=aE hB U.box.c0;have kz:=aE hB U.box.c1;have kz:=aE hB V.box.c0;have kz:=aE hB V.box.c1;have ec:=Rg.ec zZ;(first | (go_simp;done) | (go_simp;first | done | omega | (simp;omega);done)))
  ·intro _ zZ w_ hB hr
   have e21:=Rg.A_ (hr 21 δ);have e22:=Rg.A_ (hr 22 δ);exact U0
  ·exact Yq
  intro vals wz hB hv hne;have Ow:vals 5=.bool false:=hv 5 δ;simp only [bD,Rg.fill,Act.put,Nat.reduceAdd];clear hv;simp only [Ow];clear Ow;replace ⟨V,U,B⟩:=Ky hB V U B;clear hB;unfold aU;go_wp2
  go_roundw
  case rel=>exact ⟨m+1,hi,rfl,rfl,ω,ω,h3,h4,V,U,B⟩
  case measure=>simp [intOf] <;> omega
 obtain rfl:lo=L:=ω
 obtain rfl:hi=lo:=ω
 have PT1:=KO fun v W k h=>PT.out hi ω ω v W k h
 have Sm:=fun v v' W k k' h h'=>PC.out hi ω ω v v' W k k' h h'
 have hsg:Wh.LY (D*hi) A=0 ↔ D*hi=A:=by unfold Wh.LY;(repeat' split) <;> omega
 generalize Wh.LY (D*hi) A=sg at *;have Sm:=KO Sm;have hdd:=KO (show decide (D*hi=A)=decide (sg=0) by rw [decide_eq_decide];exact hsg.symm);clear hsg PC PT
 go_upto_region 7 with fail
 refine be 9 [.is hi,.is (.agg #[s2,.slice ad ld cd]),.is hi,.at (aK (wr.heap.size) (D*hi)),.is (.agg #[s1,.slice aa la ca]),.is sg,.is (decide (sg=0)),.is hi,.is (decide (sg=0))] κ κ κ ⟨?_,?_,?_,?_,?_,?_,?_,?_,?_,trivial⟩ ?_
 all_goals try ((refine Rg.b1 ?_;intro zZ w_ hB e);have kz:=aE hB U.box.c0;have kz:=aE hB U.box.c1;have kz:=aE hB V.box.c0;have kz:=aE hB V.box.c1;have ec:=Rg.ec zZ;(first | (go_simp;done) | (go_simp;first | done | rfl | (by_cases Ke:sg=0 <;> simp [Ke];done);done)))
 ·intro _ zZ w_ hB hr
  have e31:=Rg.A_ (hr 31 δ);have e32:=Rg.A_ (hr 32 δ);exact U0
 ·intro _ zZ w_ hB hr
  obtain ⟨Rh,a33,Rc,RC,QW,e33,UI⟩:=aK.get (hr 33 δ);have e34:=Rg.A_ (hr 34 δ);have ef:=Rg.ef zZ;obtain rfl:=QW.out;exact bO rfl γ (Sm.out _ _ _ _ _ UI (aF.below oa.out hB))
 intro vals wz hB hv hne;have Mi:vals 7=.int .i64 hi:=hv 7 δ;have Od:vals 8=.bool (decide (sg=0)):=hv 8 δ;simp only [bD,Rg.fill,Act.put,Nat.reduceAdd];clear hv;simp only [Mi,Od];clear Mi Od;unfold aU;go_wp2;go_ret2;exact ⟨by rw [hdd.out];rfl,p_ B hB⟩
namespace M
def top (n m X1 E1 X2 E2:Int):Int:=n*n*(E1*E1*E2*E2) - m*m*(X1*E2*E2+X2*E1*E1)
def bot (m E1 E2:Int):Int:=m*m*(E1*E1*E2*E2)
def iV (n m X1 Y1 E1 x e:Int):Int:=n*(X1*e*e - x*E1*E1)*E1 - Y1*m*e*e
theorem Jc {x1 x2 y1 y2 l A B:Int} (h1:y1*y1=x1*x1*x1+A*x1+B) (h2:y2*y2=x2*x2*x2+A*x2+B) (hl:l*(x2 - x1)=y2 - y1) (hne:x2 - x1≠0):(l*(x1 - (l*l - x1 - x2)) - y1)*(l*(x1 - (l*l - x1 - x2)) - y1)=(l*l - x1 - x2)*(l*l - x1 - x2)*(l*l - x1 - x2)+A*(l*l - x1 - x2)+B:=by
 have hU:(x2 - x1)*(A - 2*l*(y1 - l*x1) - (x1*x2+(x1+x2)*(l*l - x1 - x2)))=0:=φ
 have hU2:A - 2*l*(y1 - l*x1) - (x1*x2+(x1+x2)*(l*l - x1 - x2))=0:=by
  rcases Int.mul_eq_zero.1 hU with h | h
  ·exact absurd h hne
  exact h
 grind
theorem tang {x1 y1 l A B:Int} (h1:y1*y1=x1*x1*x1+A*x1+B) (hl:l*(2*y1)=3*x1*x1+A):(l*(x1 - (l*l - x1 - x1)) - y1)*(l*(x1 - (l*l - x1 - x1)) - y1)=(l*l - x1 - x1)*(l*l - x1 - x1)*(l*l - x1 - x1)+A*(l*l - x1 - x1)+B:=by
 grind
theorem scale {a b X Y E m F:Int} (h:Y*Y=X*X*X+a*X*E*E*E*E+b*E*E*E*E*E*E):(Y*m*m*m*F*F*F)*(Y*m*m*m*F*F*F)=(X*m*m*F*F)*(X*m*m*F*F)*(X*m*m*F*F)+a*((m*E*F)*(m*E*F)*((m*E*F)*(m*E*F)))*(X*m*m*F*F)+b*((m*E*F)*(m*E*F)*((m*E*F)*(m*E*F))*((m*E*F)*(m*E*F))):=by
 have q:(Y*m*m*m*F*F*F)*(Y*m*m*m*F*F*F)=(Y*Y)*(m*m*m*m*m*m*(F*F*F*F*F*F)):=by clear h;grind
 rw [q,h];clear h q
 grind
theorem slp {n m u v k l r:Int} (h:n*u=m*v) (e1:l=u*k*n) (e2:r=v*(k*m)):l=r:=by
 rw [e1,e2,show u*k*n=n*u*k by grind,h];clear h e1 e2
 grind
theorem KL {a b X1 Y1 E1 X2 Y2 E2 n m:Int} (h1:Y1*Y1=cv a b X1 E1) (h2:Y2*Y2=cv a b X2 E2) (he1:E1≠0) (he2:E2≠0) (hm:m≠0) (hs:n*sD X1 Y1 E1 X2 Y2 E2=m*sN a X1 Y1 E1 X2 Y2 E2) (hd:sD X1 Y1 E1 X2 Y2 E2≠0) :
  (n*E1*E2*(X1*m*m*E2*E2 - top n m X1 E1 X2 E2) - Y1*m*m*m*E2*E2*E2)*(n*E1*E2*(X1*m*m*E2*E2 - top n m X1 E1 X2 E2) - Y1*m*m*m*E2*E2*E2)=top n m X1 E1 X2 E2*top n m X1 E1 X2 E2*top n m X1 E1 X2 E2+a*(bot m E1 E2*bot m E1 E2)*top n m X1 E1 X2 E2+b*(bot m E1 E2*bot m E1 E2*bot m E1 E2):=by
 unfold cv at h1 h2
 have ht:top n m X1 E1 X2 E2=(n*E1*E2)*(n*E1*E2) - X1*m*m*E2*E2 - X2*m*m*E1*E1:=by unfold top;grind
 have hb:bot m E1 E2=(m*E1*E2)*(m*E1*E2):=by unfold bot;grind
 have k1:=scale (m:=m) (F:=E2) h1
 by_cases hc:X1=X2/\Y1=Y2/\E1=E2
 ·unfold sD at hs;rw [if_pos hc] at hs
  unfold sN at hs;rw [if_pos hc] at hs;obtain ⟨rfl,rfl,rfl⟩:=hc;have kl:(n*E1*E1)*(2*(Y1*m*m*m*E1*E1*E1))=3*(X1*m*m*E1*E1)*(X1*m*m*E1*E1)+a*((m*E1*E1)*(m*E1*E1)*((m*E1*E1)*(m*E1*E1))):=slp (k:=m*m*m*E1*E1*E1*E1) hs (by clear hs k1;grind) (by clear hs k1;grind);have:=tang k1 kl;rw [ht,hb];exact this
 unfold sD at hs hd;rw [if_neg hc] at hs hd;unfold sN at hs;rw [if_neg hc] at hs;have k2:=scale (m:=m) (F:=E1) h2;rw [show m*E2*E1=m*E1*E2 by grind] at k2;have kl:(n*E1*E2)*(X2*m*m*E1*E1 - X1*m*m*E2*E2)=Y2*m*m*m*E1*E1*E1 - Y1*m*m*m*E2*E2*E2:=slp (k:=m*m) hs (by clear hs k1 k2 hd;grind) (by clear hs k1 k2 hd;grind)
 have kn:X2*m*m*E1*E1 - X1*m*m*E2*E2≠0:=by
  intro h
  have:m*m*(X2*E1*E1 - X1*E2*E2)=0:=by rw [←h];clear h;grind
  rcases Int.mul_eq_zero.1 this with h | h
  ·rcases Int.mul_eq_zero.1 h with h | h <;> exact hm h
  exact hd (by rw [h];simp)
 have:=Jc k1 k2 kl kn;rw [ht,hb];exact this
theorem gO {k x y:Int} (hk:k≠0) (h:k*x=k*y):x=y:=Int.eq_of_mul_eq_mul_left hk h
theorem Es {a b X1 Y1 E1 X2 Y2 E2 n m x e:Int} (h1:Y1*Y1=cv a b X1 E1) (h2:Y2*Y2=cv a b X2 E2) (he1:E1≠0) (he2:E2≠0) (hm:m≠0) (hs:n*sD X1 Y1 E1 X2 Y2 E2=m*sN a X1 Y1 E1 X2 Y2 E2) (hd:sD X1 Y1 E1 X2 Y2 E2≠0) (hx:bot m E1 E2*x=top n m X1 E1 X2 E2*(e*e)) :
  (e*iV n m X1 Y1 E1 x e)*(e*iV n m X1 Y1 E1 x e)=(m*E1*E1*E1)*(m*E1*E1*E1)*cv a b x e:=by
 have h3:=KL h1 h2 he1 he2 hm hs hd
 have hy:e*e*(n*E1*E2*(X1*m*m*E2*E2 - top n m X1 E1 X2 E2) - Y1*m*m*m*E2*E2*E2)=m*m*E2*E2*E2*iV n m X1 Y1 E1 x e:=by
  unfold iV;unfold bot at hx
  have hq:n*E1*E2*(m*m*(E1*E1*E2*E2)*x)=n*E1*E2*(top n m X1 E1 X2 E2*(e*e)):=by rw [hx]
  generalize top n m X1 E1 X2 E2=t at *;clear h1 h2 he1 he2 hm hs hd h3 hx
  grind
 generalize top n m X1 E1 X2 E2=t,iV n m X1 Y1 E1 x e=s,(n*E1*E2*(X1*m*m*E2*E2 - top n m X1 E1 X2 E2) - Y1*m*m*m*E2*E2*E2)=y3 at *
 have hk:(m*m*m*m)*(E2*E2*E2*E2*E2*E2)≠0:=by
  repeat' apply Int.mul_ne_zero
  all_goals assumption
 apply gO hk
 have q1:(m*m*m*m)*(E2*E2*E2*E2*E2*E2)*((e*s)*(e*s))=e*e*(e*e*y3)*(e*e*y3):=by rw [hy];clear h1 h2 hs h3 hx hy;grind
 have q2:e*e*(e*e*y3)*(e*e*y3)=(e*e)*(e*e)*(e*e)*(y3*y3):=by clear h1 h2 hs h3 hx hy q1;grind
 rw [q1,q2,h3]
 have q3:bot m E1 E2=(m*E1*E2)*(m*E1*E2):=by unfold bot;grind
 have q4:(e*e)*(e*e)*(e*e)*(t*t*t+a*(bot m E1 E2*bot m E1 E2)*t+b*(bot m E1 E2*bot m E1 E2*bot m E1 E2))=(t*(e*e))*(t*(e*e))*(t*(e*e))+a*(bot m E1 E2*bot m E1 E2)*(t*(e*e))*(e*e*(e*e))+b*(bot m E1 E2*bot m E1 E2*bot m E1 E2)*(e*e*(e*e)*(e*e)):=by clear h1 h2 hs h3 hx hy q1 q2 q3;grind
 rw [q4,←hx];unfold cv;rw [q3];clear h1 h2 he1 he2 hm hs hd h3 hx hy hk q1 q2 q3 q4
 grind
theorem Ej {k c z:Int} (hk:k≠0) (h:z*z=k*k*c):∃ q,z=k*q/\q*q=c:=by
 have h1:k*k ∣ z*z:=⟨c,h⟩
 have h2:k.natAbs ^ 2 ∣ z.natAbs ^ 2:=by
  have:=Int.natAbs_dvd_natAbs.2 h1
  rwa [Int.natAbs_mul,Int.natAbs_mul,←Nat.pow_two,←Nat.pow_two] at this
 have h3:k ∣ z:=Int.natAbs_dvd_natAbs.1 ((Nat.pow_dvd_pow_iff δ).1 h2);obtain ⟨q,rfl⟩:=h3;refine ⟨q,rfl,?_⟩;have hkk:k*k≠0:=Int.mul_ne_zero hk hk
 apply gO hkk
 rw [←h];clear h h1 h2
 grind
theorem Gp {a b X1 Y1 E1 X2 Y2 E2 n m x e:Int} (h1:Y1*Y1=cv a b X1 E1) (h2:Y2*Y2=cv a b X2 E2) (he1:E1≠0) (he2:E2≠0) (hm:m≠0) (hs:n*sD X1 Y1 E1 X2 Y2 E2=m*sN a X1 Y1 E1 X2 Y2 E2) (hd:sD X1 Y1 E1 X2 Y2 E2≠0) (hx:bot m E1 E2*x=top n m X1 E1 X2 E2*(e*e)) :
  ∃ y,e*iV n m X1 Y1 E1 x e=m*E1*E1*E1*y/\y*y=cv a b x e:=
 Ej (Int.mul_ne_zero (Int.mul_ne_zero (Int.mul_ne_zero hm he1) he1) he1) (Es h1 h2 he1 he2 hm hs hd hx)
theorem Be {X1 E1 X2 E2 n m x e:Int} (hg:Int.gcd n m=1) (hx:bot m E1 E2*x=top n m X1 E1 X2 E2*(e*e)):m ∣ E1*E2*e:=by
 have h1:(n*(E1*E2*e))*(n*(E1*E2*e))=m*m*(E1*E1*E2*E2*x+(X1*E2*E2+X2*E1*E1)*(e*e)):=by
  unfold bot top at hx;clear hg
  grind
 have h3:m ∣ n*(E1*E2*e):=by
  by_cases hm:m=0
  ·subst hm
   simp only [Int.zero_mul] at h1
   rcases Int.mul_eq_zero.1 h1 with h | h <;> rw [h] <;> exact ⟨0,rfl⟩
  obtain ⟨q,hq,-⟩:=Ej hm h1;exact ⟨q,hq⟩
 have h4:=Int.dvd_gcd_mul_iff_dvd_mul.2 h3;rw [Int.gcd_comm,hg] at h4
 simpa using h4
theorem Ef {X1 E1 X2 E2 n m x e:Int} (he1:1<=E1) (he2:1<=E2) (he:1<=e) (hx1:X1<=10000) (hx2:X2<=10000) (hx3:x<=10000) (hx:bot m E1 E2*x=top n m X1 E1 X2 E2*(e*e)):n*n<=30000*(m*m):=by
 have k1:1<=E1*E1:=by have:=Int.mul_le_mul he1 he1 ω ω;omega
 have k2:1<=E2*E2:=by have:=Int.mul_le_mul he2 he2 ω ω;omega
 have k3:1<=e*e:=by have:=Int.mul_le_mul he he ω ω;omega
 have h1:(E1*E1)*(E2*E2)*(e*e)*(n*n)=m*m*((E1*E1)*(E2*E2)*x+(E2*E2)*(e*e)*X1+(E1*E1)*(e*e)*X2):=by
  unfold bot top at hx;clear k1 k2 k3
  grind
 have hmm:0<=m*m:=by rcases Int.le_total 0 m with h | h;exact Int.mul_nonneg h h;exact Int.mul_nonneg_of_nonpos_of_nonpos h h
 clear hx he1 he2 he;generalize e*e=z,E2*E2=v,E1*E1=u at *;have p1:0<=u*v:=Int.mul_nonneg ω ω;have p2:0<=v*z:=Int.mul_nonneg ω ω;have p3:0<=u*z:=Int.mul_nonneg ω ω;have p4:0<u*v*z:=Int.mul_pos (Int.mul_pos ω ω) ω
 have s1:u*v*x<=u*v*z*10000:=by
  have a1:=Int.mul_le_mul_of_nonneg_left hx3 p1;have a2:=Int.mul_le_mul_of_nonneg_left k3 p1;omega
 have s2:v*z*X1<=u*v*z*10000:=by
  have a1:=Int.mul_le_mul_of_nonneg_left hx1 p2;have a2:=Int.mul_le_mul_of_nonneg_left k1 p2
  have a3:v*z*u=u*v*z:=by clear h1;grind
  omega
 have s3:u*z*X2<=u*v*z*10000:=by
  have a1:=Int.mul_le_mul_of_nonneg_left hx2 p3;have a2:=Int.mul_le_mul_of_nonneg_left k2 p3
  have a3:u*z*v=u*v*z:=by clear h1;grind
  omega
 have s4:u*v*z*(n*n)<=u*v*z*(30000*(m*m)):=by
  rw [h1];have a1:=Int.mul_le_mul_of_nonneg_left (show u*v*x+v*z*X1+u*z*X2<=u*v*z*30000 by omega) hmm
  have a2:m*m*(u*v*z*30000)=u*v*z*(30000*(m*m)):=by clear h1 a1 s1 s2 s3;grind
  omega
 exact Int.le_of_mul_le_mul_left s4 p4
theorem sr {n m:Int} (h:n*n<=30000*(m*m)):(n.natAbs:Int)<=200*(m.natAbs:Int):=by
 rw [←Int.natAbs_mul_self' n,←Int.natAbs_mul_self' m] at h
 have u0:0<=(n.natAbs:Int):=ω
 have v0:0<=(m.natAbs:Int):=ω
 generalize (n.natAbs:Int)=u at *;generalize (m.natAbs:Int)=v at *
 rcases Int.lt_or_le (200*v) u with q | q
 ·exfalso
  have:=Int.mul_le_mul (show 200*v+1<=u by omega) (show 200*v+1<=u by omega) ω ω;rw [show (200*v+1)*(200*v+1)=40000*(v*v)+400*v+1 by clear this h q;grind] at this;have vv:=Int.mul_nonneg v0 v0;omega
 exact q
theorem xm {n m k:Int} (hk:0<k):cM (n*k) (m*k)=cM n m/\bW (n*k) (m*k)=bW n m:=by
 have hg:M.gcd (n*k) (m*k)=M.gcd n m*k:=by
  unfold M.gcd;rw [Int.gcd_mul_right]
  push_cast
  rw [Int.natAbs_of_nonneg ω]
 have t1:(n*k).tdiv (M.gcd n m*k)=n.tdiv (M.gcd n m):=Int.mul_tdiv_mul_of_pos_left n (M.gcd n m) hk;have t2:(m*k).tdiv (M.gcd n m*k)=m.tdiv (M.gcd n m):=Int.mul_tdiv_mul_of_pos_left m (M.gcd n m) hk
 by_cases hn:m<0
 ·have hn':m*k<0:=Int.mul_neg_of_neg_of_pos hn hk
  rw [gN hn',gM hn',gN hn,gM hn,hg,t1,t2];exact ⟨rfl,rfl⟩
 have hn':0<=m*k:=Int.mul_nonneg ω ω;rw [eA ω,dz ω,eA ω,dz ω,hg,t1,t2];exact ⟨rfl,rfl⟩
theorem uB {t b x f:Int} (hb:0<b) (hf:0<f) (hg:Int.gcd x f=1) (h:b*x=t*f):cM t b=x/\bW t b=f:=by
 have h1:f ∣ x*b:=⟨t,by rw [Int.mul_comm x b,h,Int.mul_comm]⟩
 have h2:=Int.dvd_gcd_mul_iff_dvd_mul.2 h1;rw [Int.gcd_comm,hg] at h2
 obtain ⟨k,hk⟩:=(by simpa using h2:f ∣ b)
 have hk0:0<k:=by
  rcases Int.lt_or_le 0 k with q | q
  ·exact q
  have:=Int.mul_nonneg_of_nonpos_of_nonpos (show -f<=0 by omega) q;rw [Int.neg_mul] at this;omega
 have ht:t=x*k:=by
  apply gO (show f≠0 by omega)
  rw [Int.mul_comm f t,←h,hk];clear h h1 h2 hk
  grind
 have hs:=xm (n:=x) (m:=f) hk0
 have hgg:M.gcd x f=1:=by unfold M.gcd;rw [hg];rfl
 rw [ht,hk];rw [hs.1,hs.2,eA ω,dz ω,hgg];simp
theorem uC {t b:Int} (hb:0<b):b*cM t b=t*bW t b/\0<bW t b/\Int.gcd (cM t b) (bW t b)=1:=by
 have hg:(0:Int)<M.gcd t b:=by
  unfold M.gcd;have:=Int.gcd_pos_of_ne_zero_right t (show b≠0 by omega);omega
 have d1:(M.gcd t b:Int) ∣ t:=Int.gcd_dvd_left ..;have d2:(M.gcd t b:Int) ∣ b:=Int.gcd_dvd_right ..;rw [eA ω,dz ω];obtain ⟨u,hu⟩:=d1;obtain ⟨v,hv⟩:=d2
 have e1:t.tdiv (M.gcd t b)=u:=by
                     conv=>lhs;arg 1;rw [hu]
                     exact Int.mul_tdiv_cancel_left u ω
 have e2:b.tdiv (M.gcd t b)=v:=by
                     conv=>lhs;arg 1;rw [hv]
                     exact Int.mul_tdiv_cancel_left v ω
 rw [e1,e2]
 have hgu:M.gcd (M.gcd t b*u) (M.gcd t b*v)=M.gcd t b:=by rw [←hu,←hv]
 generalize M.gcd t b=g at *;unfold M.gcd at hgu;rw [Int.gcd_mul_left] at hgu
 push_cast at hgu
 rw [Int.natAbs_of_nonneg ω] at hgu;refine ⟨?_,?_,?_⟩
 ·rw [hu,hv];clear hu hv e1 e2 hgu;grind
 ·rcases Int.lt_or_le 0 v with q | q
  ·exact q
  have:=Int.mul_nonneg_of_nonpos_of_nonpos (show -g<=0 by omega) q;rw [Int.neg_mul] at this;omega
 have:(Int.gcd u v:Int)=1:=by
  apply gO (show g≠0 by omega)
  omega
 omega
theorem tU {x e:Int}:Int.gcd x (e*e)=1 ↔ Int.gcd x e=1:=by
 unfold Int.gcd;rw [Int.natAbs_mul]
 constructor
 ·intro h
  exact Nat.Coprime.coprime_mul_left_right (show Nat.Coprime x.natAbs (e.natAbs*e.natAbs) from h)
 intro h;exact Nat.Coprime.mul_right (show Nat.Coprime x.natAbs e.natAbs from h) h
theorem zk {e:Int} (h:0<=e):root (e*e)=e:=(pS ⟨h,Int.le_refl _,by rw [Int.add_mul,Int.mul_add];omega⟩).symm
noncomputable def L9 (n m X1 E1 X2 E2:Int):Int:=root (bW (top n m X1 E1 X2 E2) (bot m E1 E2))
noncomputable def NX (n m X1 E1 X2 E2:Int):Int:=cM (top n m X1 E1 X2 E2) (bot m E1 E2)
noncomputable def QJ (n m X1 Y1 E1 X2 E2:Int):Int:=(L9 n m X1 E1 X2 E2*iV n m X1 Y1 E1 (NX n m X1 E1 X2 E2) (L9 n m X1 E1 X2 E2)) / (m*E1*E1*E1)
noncomputable def gS (n m X1 E1 X2 E2:Int):Bool:=decide (L9 n m X1 E1 X2 E2*L9 n m X1 E1 X2 E2=bW (top n m X1 E1 X2 E2) (bot m E1 E2)) && decide (L9 n m X1 E1 X2 E2<=20) && M.ins (NX n m X1 E1 X2 E2) (-10000) 10000
theorem pF {m E1 E2:Int} (hm:m≠0) (he1:E1≠0) (he2:E2≠0):0<bot m E1 E2:=by
 have h:bot m E1 E2=(m*E1*E2)*(m*E1*E2):=by unfold bot;grind
 have h0:m*E1*E2≠0:=Int.mul_ne_zero (Int.mul_ne_zero hm he1) he2;rw [h]
 rcases Int.lt_or_gt_of_ne h0 with q | q
 ·exact Int.mul_pos_of_neg_of_neg q q
 exact Int.mul_pos q q
theorem H8 {n m X1 E1 X2 E2 x e:Int} (hm:m≠0) (he1:E1≠0) (he2:E2≠0) (h1:1<=e) (h2:e<=20) (h3:-10000<=x) (h4:x<=10000) (hg:Int.gcd x e=1) (hx:bot m E1 E2*x=top n m X1 E1 X2 E2*(e*e)):gS n m X1 E1 X2 E2=true/\NX n m X1 E1 X2 E2=x/\L9 n m X1 E1 X2 E2=e:=by
 have hp:=uB (pF hm he1 he2) (Int.mul_pos ω ω) (tU.2 hg) hx
 have hE:L9 n m X1 E1 X2 E2=e:=by unfold L9;rw [hp.2];exact zk ω
 have hX:NX n m X1 E1 X2 E2=x:=hp.1;refine ⟨?_,hX,hE⟩;unfold gS;rw [hE,hX,hp.2];simp [M.ins,h2,h3,h4]
theorem yS {n m X1 E1 X2 E2:Int} (hm:m≠0) (he1:E1≠0) (he2:E2≠0) (h:gS n m X1 E1 X2 E2=true):1<=L9 n m X1 E1 X2 E2/\L9 n m X1 E1 X2 E2<=20/\-10000<=NX n m X1 E1 X2 E2/\NX n m X1 E1 X2 E2<=10000/\Int.gcd (NX n m X1 E1 X2 E2) (L9 n m X1 E1 X2 E2)=1/\bot m E1 E2*NX n m X1 E1 X2 E2=top n m X1 E1 X2 E2*(L9 n m X1 E1 X2 E2*L9 n m X1 E1 X2 E2):=by
 have hp:=uC (t:=top n m X1 E1 X2 E2) (pF hm he1 he2);unfold gS at h;simp only [Bool.and_eq_true,decide_eq_true_eq,M.ins] at h;obtain ⟨⟨k1,k2⟩,k3,k4⟩:=h;rw [←k1] at hp;have hE:0<=L9 n m X1 E1 X2 E2:=(iU (by have:=hp.2.1;omega)).1;refine ⟨?_,k2,k3,k4,tU.1 hp.2.2,hp.1⟩
 rcases Int.lt_or_le 0 (L9 n m X1 E1 X2 E2) with q | q
 ·omega
 have:L9 n m X1 E1 X2 E2=0:=ω
 have:=hp.2.1;rw [‹L9 n m X1 E1 X2 E2=0›] at this;omega
end M
end
section
theorem wau0 {p:Prop} (h:p:=by rw [Nat.div_lt_iff_lt_mul (Nat.two_pow_pos _),←Nat.pow_add,Nat.add_comm k];exact h):p:=h
namespace M
open Ieee
theorem cut0 (neg:Bool) (n:Nat):Toward.even.cut neg n 0=n:=by
 unfold Toward.cut;simp [Nat.mod_one]
theorem IQ {neg:Bool} {n drop k:Nat} (h:n<2 ^ (drop+k)):Toward.even.cut neg n drop<=2 ^ k:=by
 unfold Toward.cut
 dsimp only
 rw [Nat.one_shiftLeft]
 have hb:∀ b:Bool,b.toNat<=1:=fun b=>by cases b <;> decide
 have hp:0<2 ^ k:=Nat.two_pow_pos k;refine Nat.le_trans (Nat.add_le_add_left (hb _) _) ?_
 by_cases hd:drop<=n.log2+2
 ·rw [Nat.min_eq_left hd]
  have:n / 2 ^ drop<2 ^ k:=by
   exact wau0
  omega
 rw [Nat.min_eq_right ω];have h1:n<2 ^ (n.log2+2):=Nat.lt_of_lt_of_le Nat.lt_log2_self (Nat.pow_le_pow_right δ ω);rw [Nat.div_eq_of_lt h1];omega
theorem FT {neg:Bool} {n drop k:Nat} (h:n<2 ^ (drop+k)):Toward.zero.cut neg n drop<=2 ^ k:=by
 unfold Toward.cut
 dsimp only
 rw [Nat.one_shiftLeft]
 by_cases hd:drop<=n.log2+2
 ·rw [Nat.min_eq_left hd]
  have:n / 2 ^ drop<2 ^ k:=by
   exact wau0
  simp
  omega
 rw [Nat.min_eq_right ω];have h1:n<2 ^ (n.log2+2):=Nat.lt_of_lt_of_le Nat.lt_log2_self (Nat.pow_le_pow_right δ ω);rw [Nat.div_eq_of_lt h1];simp
theorem kQ (n:Nat):∀ todo root:Nat,Datum.rootFrom n todo root<root+2 ^ todo
 | 0,root=>by simp [Datum.rootFrom]
 | todo+1,root=>by
  unfold Datum.rootFrom
  dsimp only
  have h1:=kQ n todo (root+1 <<< todo);have h2:=kQ n todo root;have h3:(1 <<< todo:Nat)=2 ^ todo:=Nat.one_shiftLeft todo
  have h4:2 ^ (todo+1)=2*2 ^ todo:=by rw [Nat.pow_succ];omega
  rw [h3] at h1 ⊢
  split <;> omega
theorem rA {ρ:Nat} (h:ρ<9218868437227405312):double.read ρ=if ρ<4503599627370496 then .number false ρ (-1074) else .number false (4503599627370496+ρ % 4503599627370496) (-1074+(ρ / 4503599627370496 - 1:Nat)):=by
 unfold Format.read;have e1:double.signWeight=9223372036854775808:=rfl;have e2:double.binade=4503599627370496:=rfl;have e3:double.infRung=9218868437227405312:=rfl
 have e4:double.leastPlace=-1074:=δ
 rw [e1,e2,e3,e4];have h1:ρ % 9223372036854775808=ρ:=Nat.mod_eq_of_lt ω;have h2:ρ / 9223372036854775808=0:=Nat.div_eq_of_lt ω
 dsimp only
 rw [h1,h2];simp only [h,if_true];rfl
theorem nh {n k:Nat} (h:n≠0):(n <<< k).log2=n.log2+k:=by
 rw [Nat.shiftLeft_eq];have h0:n*2 ^ k≠0:=Nat.mul_ne_zero h (Nat.pos_iff_ne_zero.1 (Nat.two_pow_pos k));refine Nat.le_antisymm ?_ ?_
 ·refine Nat.lt_succ_iff.1 ((Nat.log2_lt h0).2 ?_)
  rw [show (n.log2+k).succ=(n.log2+1)+k from ω,Nat.pow_add];exact Nat.mul_lt_mul_of_pos_right Nat.lt_log2_self (Nat.two_pow_pos k)
 refine (Nat.le_log2 h0).2 ?_;rw [Nat.pow_add];exact Nat.mul_le_mul_right _ (Nat.log2_self_le h)
theorem rQ {n:Nat} (h0:n≠0) (h:n<9007199254740992):double.read (double.nearest false n 0)=.number false (n <<< (52 - n.log2)) ((n.log2:Int) - 52):=by
 have hL:n.log2<=52:=Nat.lt_succ_iff.1 ((Nat.log2_lt h0).2 h);have hK:=nh (k:=52 - n.log2) h0;rw [show n.log2+(52 - n.log2)=52 from ω] at hK
 have hK0:n <<< (52 - n.log2)≠0:=by rw [Nat.shiftLeft_eq];exact Nat.mul_ne_zero h0 (Nat.pos_iff_ne_zero.1 (Nat.two_pow_pos _))
 have k1:=Nat.log2_self_le hK0;have k2:=Nat.lt_log2_self (n:=n <<< (52 - n.log2));rw [hK] at k1 k2;generalize hk:n <<< (52 - n.log2)=K at *
 have e:double.nearest false n 0=(n.log2+1022)*4503599627370496+K:=by
  unfold Format.nearest;have e2:double.binade=4503599627370496:=rfl;have e3:double.infRung=9218868437227405312:=rfl
  have e4:double.leastPlace=-1074:=δ
  have e5:double.fractionBits=52:=rfl;rw [if_neg h0,e2,e3,e4,e5]
  dsimp only
  have m1:max ((0:Int)+(n.log2:Int) - ((52:Nat):Int)) (-1074)=(n.log2:Int) - 52:=ω
  rw [m1]
  have m2:((0:Int) - ((n.log2:Int) - 52)).toNat=52 - n.log2:=ω
  have m3:((n.log2:Int) - 52 - 0).toNat=0:=ω
  have m4:((n.log2:Int) - 52 - -1074).toNat=n.log2+1022:=ω
  rw [m2,m3,hk,cut0,m4,Nat.min_eq_left ω];rfl
 rw [e,rA ω,if_neg ω]
 have d1:((n.log2+1022)*4503599627370496+K) % 4503599627370496=K - 4503599627370496:=ω
 have d2:((n.log2+1022)*4503599627370496+K) / 4503599627370496=n.log2+1023:=ω
 rw [d1,d2,show 4503599627370496+(K - 4503599627370496)=K from ω,show -1074+((n.log2+1023 - 1:Nat):Int)=(n.log2:Int) - 52 from ω]
theorem yw {m:Nat} {i:Int} (hm:m<2 ^ 53) (hi:i<=-30):∃ R:Int,(Datum.number false m i).toInt .zero=some R/\0<=R/\R<=8388608:=by
 have hz:i.toNat=0:=ω
 have h1:=FT (neg:=false) (n:=m) (drop:=(-i).toNat) (k:=23) (Nat.lt_of_lt_of_le hm (Nat.pow_le_pow_right δ ω));rw [show (2:Nat) ^ 23=8388608 from rfl] at h1;refine ⟨(Toward.zero.cut false m (-i).toNat:Nat),?_,ω,ω⟩;unfold Datum.toInt Datum.integral
 dsimp only
 rw [hz,Nat.shiftLeft_zero];simp [signed]
theorem Df {ρ:Nat} (hρ:ρ<=4706261610602168320):∃ R:Int,(double.read ρ).toInt .zero=some R/\0<=R/\R<=8388608:=by
 have hmd:=Nat.mod_lt ρ (show 0<4503599627370496 from δ);rw [rA ω];have e53:(9007199254740992:Nat)=2 ^ 53:=rfl
 by_cases hs:ρ<4503599627370496
 ·rw [if_pos hs]
  exact yw (by rw [←e53];omega) ω
 rw [if_neg hs];exact yw (by rw [←e53];omega) ω
theorem Fu {mag:Nat} {dB:Int}:Toward.even.cut false (mag <<< (dB - (dB+mag.log2 - 52)).toNat) (dB+mag.log2 - 52 - dB).toNat<=2 ^ 53:=by
 refine IQ ?_;have h3:=Nat.lt_log2_self (n:=mag);rw [Nat.shiftLeft_eq]
 rcases Nat.lt_or_ge mag.log2 53 with q | q
 ·have z1:(dB - (dB+mag.log2 - 52)).toNat=52 - mag.log2:=ω
  have z2:(dB+mag.log2 - 52 - dB).toNat=0:=ω
  have h4:=Nat.mul_lt_mul_of_pos_right h3 (Nat.two_pow_pos (52 - mag.log2));rw [←Nat.pow_add,show mag.log2+1+(52 - mag.log2)=53 from ω] at h4;rw [z1,z2,Nat.zero_add];exact h4
 have z1:(dB - (dB+mag.log2 - 52)).toNat=0:=ω
 have z2:(dB+mag.log2 - 52 - dB).toNat=mag.log2 - 52:=ω
 rw [z1,z2,Nat.pow_zero,Nat.mul_one,show mag.log2 - 52+53=mag.log2+1 from ω];exact h3
theorem BE {mag:Nat} {dB:Int} (h:mag<2 ^ 56) (h1:-200<=dB) (h2:dB<=-34):double.nearest false mag dB<=4706261610602168320:=by
 unfold Format.nearest;have e2:double.binade=4503599627370496:=rfl
 have e4:double.leastPlace=-1074:=δ
 have e5:double.fractionBits=52:=rfl
 have w0:∀ x,double.word false x=x:=fun x=>rfl
 by_cases h0:mag=0
 ·rw [if_pos h0,w0];omega
 rw [if_neg h0,e2,e4,e5,w0];have hl:mag.log2<=55:=Nat.lt_succ_iff.1 ((Nat.log2_lt h0).2 h)
 have m1:max (dB+(mag.log2:Int) - ((52:Nat):Int)) (-1074)=dB+mag.log2 - 52:=ω
 rw [m1];refine Nat.le_trans (Nat.min_le_left _ _) ?_;have hc:=Fu (mag:=mag) (dB:=dB);rw [show (2:Nat) ^ 53=9007199254740992 from rfl] at hc
 have hb:(dB+mag.log2 - 52 - -1074).toNat<=1043:=ω
 have hb2:=Nat.mul_le_mul_right 4503599627370496 hb;exact Nat.le_trans (Nat.add_le_add hb2 hc) δ
theorem Aq {mag:Nat} {dB:Int} (h:mag<2 ^ 56) (h1:-200<=dB) (h2:dB<=-34) :
  ∃ R:Int,(double.read (double.nearest false mag dB)).toInt .zero=some R/\0<=R/\R<=8388608:=Df (BE h h1 h2)
theorem yG {n:Nat} (h:n<8796093022208):∃ r:Nat,double.sqrt (double.nearest false n 0)=some r/\∃ R:Int,(double.read r).toInt .zero=some R/\0<=R/\R<=8388608:=by
 by_cases h0:n=0
 ·subst h0
  exact ⟨_,rfl,_,rfl,δ,δ⟩
 have hL:n.log2<=42:=Nat.lt_succ_iff.1 ((Nat.log2_lt h0).2 h);have hK:=nh (k:=52 - n.log2) h0;rw [show n.log2+(52 - n.log2)=52 from ω] at hK
 have hK0:n <<< (52 - n.log2)≠0:=by rw [Nat.shiftLeft_eq];exact Nat.mul_ne_zero h0 (Nat.pos_iff_ne_zero.1 (Nat.two_pow_pos _))
 unfold Format.sqrt;rw [rQ h0 ω];generalize n <<< (52 - n.log2)=K at *;generalize hn:n.log2=l at *;unfold Datum.root
 dsimp only
 have e5:double.fractionBits=52:=rfl;rw [if_neg hK0,e5,hK];simp only [Bool.false_eq_true,if_false,Option.map_some];refine ⟨_,rfl,?_⟩
 have hr:(((l:Int) - 52 - ((2*(52+2) - 52:Nat):Int)) % 2).toNat<=1:=ω
 generalize hmm:(((l:Int) - 52 - ((2*(52+2) - 52:Nat):Int)) % 2).toNat=b at *;unfold Format.write
 dsimp only
 refine Aq ?_ ?_ ?_
 ·have hx:=kQ (K <<< (2*(52+2) - 52+b)) ((K <<< (2*(52+2) - 52+b)).log2 / 2+1) 0
  have hy:(K <<< (2*(52+2) - 52+b)).log2 / 2+1<=55:=by rw [nh hK0];omega
  have hz:=Nat.pow_le_pow_right (n:=2) δ hy
  have hb:∀ c:Bool,c.toNat<=1:=fun c=>by cases c <;> decide
  rw [show (2:Nat) ^ 55=36028797018963968 from rfl] at hz;rw [show (2:Nat) ^ 56=72057594037927936 from rfl];have:=hb (Datum.rootFrom (K <<< (2*(52+2) - 52+b)) ((K <<< (2*(52+2) - 52+b)).log2 / 2+1) 0*Datum.rootFrom (K <<< (2*(52+2) - 52+b)) ((K <<< (2*(52+2) - 52+b)).log2 / 2+1) 0 != K <<< (2*(52+2) - 52+b));omega
 ·omega
 omega
end M
theorem yH {n:Int} (h0:0<=n) (h:n<=8000000000000):∃ r:Nat,FloatKind.f64.format.sqrt (FloatKind.f64.nearest n)=some r/\∃ R:Int,floatToIntVal .f64 r .i64=some R/\0<=R/\R<=8388608:=by
 obtain ⟨r,h1,R,h2,h3,h4⟩:=M.yG (n:=n.natAbs) ω;refine ⟨r,?_,R,?_,h3,h4⟩
 ·have e:FloatKind.f64.nearest n=Ieee.double.nearest false n.natAbs 0:=by
   unfold FloatKind.nearest FloatKind.encode Ieee.Format.write
   dsimp only
   rw [show decide (n<0)=false from by simp;omega];rfl
  rw [e];exact h1
 unfold floatToIntVal;rw [show (FloatKind.f64.decode r).toInt .zero=some R from h2]
 dsimp only
 rw [if_pos]
 have a1:IntKind.i64.min=-9223372036854775808:=δ
 have a2:IntKind.i64.max=9223372036854775807:=δ
 omega
end
section
open Go.RowKit open M
noncomputable def M.jF (n:Int):Bool:=decide (0<=n) && (M.root n*M.root n == n)
theorem M.mV {n r:Int} (h:r*r=n):jF n=true:=by
 have h0:0<=n:=by
  rw [←h]
  rcases Int.le_total 0 r with q | q
  ·exact Int.mul_nonneg q q
  exact Int.mul_nonneg_of_nonpos_of_nonpos q q
 have hr:=pS (n:=n) (r:=(r.natAbs:Int)) ⟨ω,by rw [←h];exact Int.le_of_eq (Int.natAbs_mul_self' r),by
  have:(r.natAbs:Int)*(r.natAbs:Int)=r*r:=Int.natAbs_mul_self' r;rw [←h,←this,Int.mul_add,Int.add_mul]
  omega⟩
 unfold jF;rw [←hr,Int.natAbs_mul_self',h];simp [h0]
theorem M.Fl {n r:Int} (h0:0<=r) (h1:r*r<n) (h2:n<(r+1)*(r+1)):jF n=false:=by
 have h3:0<=r*r:=Int.mul_nonneg h0 h0;have hr:=pS (n:=n) (r:=r) ⟨h0,ω,h2⟩;unfold jF;rw [←hr,show (r*r == n)=false from by simp;omega];simp
theorem M.vR {n:Int} (h:n<0):jF n=false:=by
 unfold jF;rw [show decide (0<=n)=false from by simp;omega];rfl
theorem Bf (x r:Nat) (h:FloatKind.f64.format.sqrt x=some r) (W:World):(callFunc 178 #[.float .f64 x]).run prog W=.ok (.value (.float .f64 r)) W:=by
 rw [run_callFunc_extern func178 κ κ κ (e:=Extern.MathSqrt.sqrt) κ]
 have e:(Extern.MathSqrt.sqrt #[.float .f64 x]).run prog W=.ok (.float .f64 r) W:=by
  change Sem.run prog (match FloatKind.f64.format.sqrt x with
   | some r=>pure (Value.float .f64 r)
   | none=>do pure (Value.float .f64 (←choose (.nanBits .f64 x x)))) W=_
  rw [h];rfl
 rw [e];rfl
theorem H6 (x r:Nat) (h:FloatKind.f64.format.sqrt x=some r) (w:World) :
  cP 161 #[.float .f64 x] w (.float .f64 r):=by
 have hd:=Bf x r h;go_enter func161,ntmps161
 go_wp2;go_ret;exact ⟨rfl,rfl⟩
end
section
open Go.RowKit open Gr M Rg Rw Wh
theorem Zv {p:Prop} (h:p:=by
 go_wp2;go_ret2
 first | (rw [hz,hv];exact ⟨rfl,rfl⟩) | (rw [hv];exact ⟨rfl,rfl⟩) | (rw [hv];rfl) | exact ⟨rfl,rfl⟩ | rfl):p:=h
noncomputable def M.rt (n:Int):Int:=if jF n then M.root n else 0
theorem M.uL {n r:Int} (h0:0<=r) (h:r*r=n):M.rt n=r:=by
 unfold M.rt;rw [mV h,if_pos rfl,←h];exact zk h0
theorem M.EU {n:Int} (h:jF n=false):M.rt n=0:=by
 unfold M.rt;rw [h];rfl
theorem mN (n:Int) (w:World) (h1:n<=8000000000000) :
  cP 135 #[n] w (.tuple #[M.rt n,jF n]):=by
 by_cases h0:n<0
 ·have hz:=vR h0
  have hv:=EU hz;go_enter func135,ntmps135
  go_wp2;go_ret2;exact ⟨by rw [hz,hv];rfl,rfl⟩
 obtain ⟨r,hs,R,hR,R0,R1⟩:=yH (n:=n) ω h1
 have hc:=fun W=>run_convert_float_int (P:=prog) W 170 3 .f64 .i64 r R κ κ hR
 have hs':FloatKind.f64.format.sqrt (floatOfInt .f64 n)=some r:=hs
 have hcall:=fun W=>H6 (floatOfInt .f64 n) r hs' W
 clear hs hs' hR;have HH:=KO hcall;clear hcall;go_enter func135,ntmps135
 go_wp2_with (go_at_call 161;refine (HH.out _).mono ?_;rintro e w' ⟨rfl,rfl⟩)
 go_loop [4] (fun vr=>∃ a:Int,vr=.int .i64 a/\0<=a/\a<=8388608) (fun vr=>(intOf vr).toNat)
 case atStart=>exact ⟨R,rfl,R0,R1⟩
 case round=>
 obtain ⟨a,rfl,a0,a1⟩:=hrel;have hb:=tr (x:=a) (y:=a) (m:=8388608) (n:=8388608) a0 a1 a0 a1
 by_cases c:n<a*a
 ·have ha:1<=a:=by
   rcases Int.lt_or_le a 1 with q | q
   ·obtain rfl:a=0:=ω
    simp at c
    omega
   exact q
  go_wp2
  go_round
  case rel=>exact ⟨a - 1,rfl,ω,ω⟩
  case measure=>simp [intOf];omega
 clear HH hc;go_wp2
 go_loop [4] (fun vr=>∃ a:Int,vr=.int .i64 a/\0<=a/\a<=8388608/\a*a<=n) (fun vr=>(8388608 - intOf vr).toNat)
 case atStart=>exact ⟨a,rfl,a0,a1,ω⟩
 case round=>
 obtain ⟨b,rfl,b0,b1,b2⟩:=hrel;have hbb:=tr (x:=b+1) (y:=b+1) (m:=8388609) (n:=8388609) ω ω ω ω;have hb3:=tr (x:=b) (y:=b) (m:=8388608) (n:=8388608) b0 b1 b0 b1
 by_cases d:(b+1)*(b+1)<=n
 ·have hlt:b+1<8388608:=by
   rcases Int.lt_or_le (b+1) 8388608 with q | q
   ·exact q
   have:=Int.mul_le_mul q q ω ω;omega
  go_wp2
  go_round
  case rel=>exact ⟨b+1,rfl,ω,ω,d⟩
  case measure=>simp [intOf];omega
 by_cases f:b*b=n
 ·have hz:=mV f
  have hv:=uL b0 f;exact Zv
 have hz:=Fl (n:=n) b0 ω ω;have hv:=EU hz;exact Zv
namespace M
theorem BI {t b:Int} (hb:b<0):cM t b=cM (-t) (-b)/\bW t b=bW (-t) (-b):=by
 have hg:M.gcd (-t) (-b)=M.gcd t b:=by unfold M.gcd;rw [Int.gcd_neg,Int.neg_gcd]
 rw [gN hb,gM hb,eA ω,dz ω,hg,Int.neg_tdiv,Int.neg_tdiv];exact ⟨rfl,rfl⟩
theorem kL {t b:Int} (hb:b≠0):b*cM t b=t*bW t b/\0<bW t b/\Int.gcd (cM t b) (bW t b)=1:=by
 rcases Int.lt_or_gt_of_ne hb with h | h
 ·obtain ⟨e1,e2⟩:=BI (t:=t) h
  obtain ⟨k1,k2,k3⟩:=uC (t:=-t) (b:=-b) ω;rw [e1,e2];refine ⟨?_,k2,k3⟩;rw [Int.neg_mul,Int.neg_mul] at k1;omega
 exact uC h
theorem kv {t b:Int} (hb:b≠0):(cM t b).natAbs<=t.natAbs/\(bW t b).natAbs<=b.natAbs:=by
 obtain ⟨k1,k2,k3⟩:=kL (t:=t) hb
 have d1:bW t b ∣ b:=by
  have:bW t b ∣ cM t b*b:=⟨t,by rw [Int.mul_comm,k1,Int.mul_comm]⟩
  have h:=Int.dvd_gcd_mul_iff_dvd_mul.2 this;rw [Int.gcd_comm,k3] at h
  simpa using h
 have d2:cM t b ∣ t:=by
  have:cM t b ∣ bW t b*t:=⟨b,by rw [Int.mul_comm,←k1,Int.mul_comm]⟩
  have h:=Int.dvd_gcd_mul_iff_dvd_mul.2 this;rw [k3] at h
  simpa using h
 refine ⟨?_,Nat.le_of_dvd ω (Int.natAbs_dvd_natAbs.2 d1)⟩
 by_cases ht:t=0
 ·subst ht
  have:b*cM 0 b=0:=by rw [k1];simp
  rcases Int.mul_eq_zero.1 this with h | h
  ·exact absurd h hb
  rw [h];simp
 exact Nat.le_of_dvd ω (Int.natAbs_dvd_natAbs.2 d2)
theorem AA {a X1 Y1 E1 X2 Y2 E2:Int} (h:sD X1 Y1 E1 X2 Y2 E2≠0):Lu a X1 Y1 E1 X2 Y2 E2*sD X1 Y1 E1 X2 Y2 E2=Le a X1 Y1 E1 X2 Y2 E2*sN a X1 Y1 E1 X2 Y2 E2/\0<Le a X1 Y1 E1 X2 Y2 E2/\Int.gcd (Lu a X1 Y1 E1 X2 Y2 E2) (Le a X1 Y1 E1 X2 Y2 E2)=1/\(Lu a X1 Y1 E1 X2 Y2 E2).natAbs<=(sN a X1 Y1 E1 X2 Y2 E2).natAbs/\(Le a X1 Y1 E1 X2 Y2 E2).natAbs<=(sD X1 Y1 E1 X2 Y2 E2).natAbs:=by
 unfold Lu Le;rw [if_neg h,if_neg h];obtain ⟨k1,k2,k3⟩:=kL (t:=sN a X1 Y1 E1 X2 Y2 E2) h;obtain ⟨k4,k5⟩:=kv (t:=sN a X1 Y1 E1 X2 Y2 E2) h;exact ⟨by rw [Int.mul_comm,k1,Int.mul_comm],k2,k3,k4,k5⟩
theorem uf {n m X1 E1 X2 E2:Int} (hm:m≠0) (he1:1<=E1) (he2:E1<=20) (NH:1<=E2) (Nu:E2<=20) (hx1:X1<=10000) (hx2:X2<=10000) (hg:Int.gcd n m=1) (h:gS n m X1 E1 X2 E2=true):(m.natAbs:Int)<=8000/\(n.natAbs:Int)<=200*(m.natAbs:Int):=by
 obtain ⟨k1,k2,k3,k4,k5,k6⟩:=yS hm ω ω h;refine ⟨?_,sr (Ef he1 NH k1 hx1 hx2 k4 k6)⟩;have hd:=Be hg k6;generalize L9 n m X1 E1 X2 E2=e at *;have p1:=aH (x:=E1) (y:=E2) (m:=20) (n:=20);have p2:=aH (x:=E1*E2) (y:=e) (m:=400) (n:=20);have p3:0<E1*E2*e:=Int.mul_pos (Int.mul_pos ω ω) ω;have:=Nat.le_of_dvd ω (Int.natAbs_dvd_natAbs.2 hd);omega
theorem JX {a b X1 Y1 E1 X2 Y2 E2 n m:Int} (h1:Y1*Y1=cv a b X1 E1) (h2:Y2*Y2=cv a b X2 E2) (he1:E1≠0) (he2:E2≠0) (hm:m≠0) (hs:n*sD X1 Y1 E1 X2 Y2 E2=m*sN a X1 Y1 E1 X2 Y2 E2) (hd:sD X1 Y1 E1 X2 Y2 E2≠0) (h:gS n m X1 E1 X2 E2=true) :
  L9 n m X1 E1 X2 E2*iV n m X1 Y1 E1 (NX n m X1 E1 X2 E2) (L9 n m X1 E1 X2 E2)=m*E1*E1*E1*QJ n m X1 Y1 E1 X2 E2/\QJ n m X1 Y1 E1 X2 E2*QJ n m X1 Y1 E1 X2 E2=cv a b (NX n m X1 E1 X2 E2) (L9 n m X1 E1 X2 E2):=by
 obtain ⟨k1,k2,k3,k4,k5,k6⟩:=yS hm he1 he2 h;obtain ⟨y,hy1,hy2⟩:=Gp h1 h2 he1 he2 hm hs hd k6
 have:QJ n m X1 Y1 E1 X2 E2=y:=by
  unfold QJ;rw [hy1];exact Int.mul_ediv_cancel_left y (Int.mul_ne_zero (Int.mul_ne_zero (Int.mul_ne_zero hm he1) he1) he1)
 rw [this];exact ⟨hy1,hy2⟩
theorem KC {n d X1 Y1 E1 x e Y up under y bottom:Int} (hd:0<d) (he1:0<E1) (he:0<e) (hY:e*iV n d X1 Y1 E1 x e=d*E1*E1*E1*Y) (k1:d*(E1*E1)*e*e*up=n*(X1*e*e - x*(E1*E1))*under) (ku:0<under) (k2:under*(E1*E1)*E1*y=(up*(E1*E1)*E1 - Y1*under)*bottom) (kb:0<bottom) (kg:Int.gcd y bottom=1):y*(e*e*e).tdiv bottom=Y:=by
 have q1:(d*E1*E1*E1*under*E1*E1)*(e*e*e*y)=(d*E1*E1*E1*under*E1*E1)*(Y*bottom):=by
  unfold iV at hY
  have s1:(d*E1*E1*E1*under*E1*E1)*(e*e*e*y)=d*E1*E1*e*e*e*(under*(E1*E1)*E1*y):=by clear hY k1 k2;grind
  have s2:d*E1*E1*e*e*e*((up*(E1*E1)*E1 - Y1*under)*bottom)=e*bottom*E1*E1*E1*(d*(E1*E1)*e*e*up) - d*E1*E1*e*e*e*Y1*under*bottom:=by clear hY k1 k2 s1;grind
  have s3:e*bottom*E1*E1*E1*(n*(X1*e*e - x*(E1*E1))*under) - d*E1*E1*e*e*e*Y1*under*bottom=bottom*under*E1*E1*(e*(n*(X1*e*e - x*E1*E1)*E1 - Y1*d*e*e)):=by clear hY k1 k2 s1 s2;grind
  rw [s1,k2,s2,k1,s3,hY];clear hY k1 k2 s1 s2 s3
  grind
 have q2:e*e*e*y=Y*bottom:=gO (by
                            repeat' apply Int.mul_ne_zero
                            all_goals omega) q1
 have q3:bottom ∣ y*(e*e*e):=⟨Y,by rw [Int.mul_comm y,q2,Int.mul_comm]⟩
 have q4:=Int.dvd_gcd_mul_iff_dvd_mul.2 q3;rw [Int.gcd_comm,kg] at q4
 obtain ⟨k,hk⟩:=(by simpa using q4:bottom ∣ e*e*e)
 rw [hk,Int.mul_tdiv_cancel_left k ω];rw [hk] at q2
 apply gO (show bottom≠0 by omega)
 rw [Int.mul_comm bottom Y,←q2];clear q1 q2 q3 q4 hk hY k1 k2
 grind
theorem I0 {m E1 e s Y r:Int} (hm:m≠0) (he1:0<E1) (he:0<e) (hY:e*s=m*E1*E1*E1*Y) (hr:0<=r) (h:r*r=Y*Y):(if decide (s<0) != decide (m<0) then -r else r)=Y:=by
 have hE:0<E1*E1*E1:=Int.mul_pos (Int.mul_pos he1 he1) he1
 have hY2:e*s=E1*E1*E1*(m*Y):=by rw [hY];clear hY h;grind
 have hr2:r=Y∨r=-Y:=by
  have:(r - Y)*(r+Y)=0:=by clear hY hY2;grind
  rcases Int.mul_eq_zero.1 this with h | h
  ·left;omega
  right;omega
 have hs1:s<0 ↔ m*Y<0:=by
  constructor
  ·intro q
   rcases Int.lt_or_le (m*Y) 0 with p | p
   ·exact p
   have a1:=Int.mul_nonneg (show 0<=E1*E1*E1 by omega) p;have a2:=Int.mul_neg_of_pos_of_neg he q;omega
  intro q
  rcases Int.lt_or_le s 0 with p | p
  ·exact p
  have a1:=Int.mul_nonneg (show 0<=e by omega) p;have a2:=Int.mul_neg_of_pos_of_neg hE q;omega
 have hs2:decide (s<0)=decide (m*Y<0):=by simpa using hs1
 rw [hs2];clear hY hY2 hs2 hs1 h
 rcases Int.lt_or_gt_of_ne hm with q | q
 ·rw [decide_eq_true q]
  rcases Int.lt_trichotomy Y 0 with p | p | p
  ·rw [decide_eq_false (by have:=Int.mul_pos_of_neg_of_neg q p;omega)]
   simp;omega
  ·subst p;rw [Int.mul_zero];simp;omega
  rw [decide_eq_true (Int.mul_neg_of_neg_of_pos q p)];simp;omega
 rw [decide_eq_false (show ¬ m<0 by omega)]
 rcases Int.lt_trichotomy Y 0 with p | p | p
 ·rw [decide_eq_true (Int.mul_neg_of_pos_of_neg q p)]
  simp;omega
 ·subst p;rw [Int.mul_zero];simp;omega
 rw [decide_eq_false (by have:=Int.mul_pos q p;omega)];simp;omega
end M
end
end Go.Proofs.YtlnjcilaflfnlaaGreatDoor
