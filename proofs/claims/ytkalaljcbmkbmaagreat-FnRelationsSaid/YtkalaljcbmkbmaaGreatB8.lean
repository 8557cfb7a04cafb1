/-
  Joined texts: contracts and plain lemmas.
-/
import Derived.Test.YtkalaljcbmkbmaaGreatB1
import Derived.Test.YtkalaljcbmkbmaaGreatB7
import Derived.Deep.DeepCutAuto
import Derived.Test.YtkalaljcbmkbmaaGreatB2
import Derived.Test.YtkalaljcbmkbmaaGreatB4
set_option linter.unusedSimpArgs false
set_option linter.unusedVariables false
set_option maxRecDepth 100000
set_option maxHeartbeats 8000000
namespace Go.Proofs.YtkalaljcbmkbmaaGreat
open Tryz
section
open Go.RowKit open Gr M Rg Rw Wh
namespace M
noncomputable def pn (a:Int):Int:=fN (Jr a 4096)
noncomputable def pd (a:Int):Int:=fD (Jr a 4096)
def aJ (lo hi:Int):Bool:=decide (lo<=hi) && decide (-409600000<=lo) && decide (hi<=409600000)
theorem cG {lo hi:Int} (h:aJ lo hi=true):lo<=hi/\-409600000<=lo/\hi<=409600000:=by
 unfold aJ at h;simp only [Bool.and_eq_true,decide_eq_true_eq] at h;exact ⟨h.1.1,h.1.2,h.2⟩
theorem wT (a:Int):∃ g q n:Int,M.gcd a 4096=g/\1<=g/\g<=4096/\4096=g*q/\1<=q/\q<=4096/\a=n*g:=by
 have h1:(M.gcd a 4096) ∣ 4096:=Int.gcd_dvd_right ..;have h2:(M.gcd a 4096) ∣ a:=Int.gcd_dvd_left ..;have h3:=qr (a:=a) (b:=4096) δ;obtain ⟨q,hq⟩:=h1;obtain ⟨n,hn⟩:=h2;generalize M.gcd a 4096=g at *
 have hq1:1<=q:=by
  rcases Int.lt_or_le q 1 with h | h
  ·have:=Int.mul_nonpos_of_nonneg_of_nonpos (a:=g) (b:=q) ω ω
   omega
  exact h
 have hg:g<=4096:=Int.le_of_dvd δ ⟨q,hq⟩;have hq2:q<=4096:=Int.le_of_dvd δ ⟨g,by rw [Int.mul_comm];exact hq⟩;exact ⟨g,q,n,rfl,ω,hg,hq,hq1,hq2,by rw [hn,Int.mul_comm]⟩
theorem qp {a g q n:Int} (hg:M.gcd a 4096=g) (h1:1<=g) (hq:4096=g*q) (hn:a=n*g):Jr a 4096=if kJ n q then some (n,q) else none:=by
 have e1:cY a 4096=n:=by rw [d9 ω,hg,hn,Int.mul_tdiv_cancel _ ω]
 have e2:bU a 4096=q:=by rw [d8 ω,hg,hq,Int.mul_tdiv_cancel_left _ ω]
 unfold Jr NW;rw [e1,e2]
theorem uh {a:Int} (h:(Jr a 4096).isSome=true):kJ (pn a) (pd a)=true/\1<=pd a/\pd a<=4096/\(4096:Int) % pd a=0/\pn a*(4096 / pd a)=a/\1<=4096 / pd a/\4096 / pd a<=4096/\-1000000000<=pn a/\pn a<=1000000000:=by
 obtain ⟨g,q,n,hg,h1,h2,hq,h3,h4,hn⟩:=wT a;have hf:=qp hg h1 hq hn;unfold pn pd;rw [hf] at h ⊢
 split at h
 ·rename_i hok
  have hb:=DS hok;rw [if_pos hok]
  show kJ n q=true/\_
  have hdiv:(4096:Int) / q=g:=by rw [hq];exact Int.mul_ediv_cancel _ ω
  refine ⟨hok,h3,h4,?_,?_,?_,?_,hb.1,hb.2.1⟩
  ·show (4096:Int) % q=0
   rw [hq];exact Int.mul_emod_left _ _
  ·show n*(4096 / q)=a
   rw [hdiv,hn]
  ·show 1<=(4096:Int) / q
   omega
  show (4096:Int) / q<=4096
  omega
 cases h
theorem bI {a:Int} (h1:-409600000<=a) (h2:a<=409600000):(Jr a 4096).isSome=true:=by
 obtain ⟨g,q,n,hg,hg1,hg2,hq,h3,h4,hn⟩:=wT a;rw [qp hg hg1 hq hn]
 have hnb:-1000000000<=n/\n<=1000000000:=by
  constructor
  ·rcases Int.lt_or_le n (-1000000000) with h | h
   ·have:n*g<=n*1:=Int.mul_le_mul_of_nonpos_left ω hg1
    omega
   exact h
  rcases Int.lt_or_le 1000000000 n with h | h
  ·have:n*1<=n*g:=Int.mul_le_mul_of_nonneg_left hg1 ω
   omega
  exact h
 have XL:M.gcd n q=1:=by
  have e1:M.gcd (n*g) (q*g)=M.gcd n q*g:=by
   unfold M.gcd;rw [Int.gcd_mul_right]
   have:(g.natAbs:Int)=g:=ω
   rw [Int.natCast_mul,this]
  rw [←hn,Int.mul_comm q g,←hq,hg] at e1;have:=Int.eq_of_mul_eq_mul_right (a:=g) (b:=1) (c:=M.gcd n q) ω ω;exact this.symm
 have hok:kJ n q=true:=by
  unfold kJ M.ins;rw [XL];simp only [Bool.and_eq_true,decide_eq_true_eq];exact ⟨⟨ω,hnb⟩,rfl⟩
 rw [if_pos hok];rfl
theorem F0 {a:Int} (h:(Jr a 4096).isSome=true):-4096000000000<=a/\a<=4096000000000:=by
 obtain ⟨-,-,-,-,h5,h6,h7,h8,h9⟩:=uh h;generalize 4096 / pd a=g at *;have:=aH (x:=pn a) (y:=g) (m:=1000000000) (n:=4096) ω ω ω ω;omega
theorem wP {a b:Int} (hb:0<b) (h:a.tmod b<0):a.tdiv b - 1=a / b:=by
 have h1:=Int.mul_tdiv_add_tmod a b;have h2:=Int.lt_tmod_of_pos a hb;exact ((Int.ediv_emod_unique (r:=a.tmod b+b) hb).2 ⟨by rw [Int.mul_sub];omega,ω,ω⟩ |>.1).symm
theorem wO {a b:Int} (hb:0<b) (h:¬ a.tmod b<0):a.tdiv b=a / b:=by
 have h1:=Int.mul_tdiv_add_tmod a b;have h2:=Int.tmod_lt_of_pos a hb;exact ((Int.ediv_emod_unique hb).2 ⟨ω,ω,h2⟩ |>.1).symm
end M
theorem gZ (a b:Int) (w:World) (h1:-4000000000000000000<=a) (h2:a<=4000000000000000000) (hb:0<b) (hb2:b<=4000000000000000000) :
  cP 130 #[a,b] w (.int .i64 (a / b)):=by
 have t1:=gO (a:=a) (d:=b) h1 h2 ω;have m1:=Int.tmod_lt_of_pos a hb;have m2:=Int.lt_tmod_of_pos a hb;have hf:=wO (a:=a) hb;have ht:=wP (a:=a) hb
 have hb0:¬ b=0:=ω
 by_cases h:a.tmod b<0
 ·have ht2:=IU (ht h)
  clear hf ht;go_enter func130,ntmps130
  go_wp2;go_ret;exact ⟨by first | rfl | (rw [←ht2.out];rfl),rfl⟩
 have hf2:=IU (hf h);clear ht hf;go_enter func130,ntmps130
 go_wp2;go_ret;exact ⟨by first | rfl | (rw [←hf2.out];rfl),rfl⟩
theorem np (a b:Int) (w:World) (h1:-4000000000000000000<=a) (h2:a<=4000000000000000000) (hb:0<b) (hb2:b<=4000000000000000000) :
  cP 143 #[a,b] w (.int .i64 (a / b)):=by
 have t1:=gO (a:=a) (d:=b) h1 h2 ω;have m1:=Int.tmod_lt_of_pos a hb;have m2:=Int.lt_tmod_of_pos a hb;have hf:=wO (a:=a) hb;have ht:=wP (a:=a) hb
 have hb0:¬ b=0:=ω
 have hb1:(b == 0)=false:=by rw [beq_eq_false_iff_ne];exact hb0
 by_cases h:a.tmod b<0
 ·have ht2:=IU (ht h)
  clear hf ht;go_enter func143,ntmps143
  go_wp2;go_ret;exact ⟨by first | rfl | (rw [←ht2.out];rfl),rfl⟩
 have hf2:=IU (hf h);clear ht hf;go_enter func143,ntmps143
 go_wp2;go_ret;exact ⟨by first | rfl | (rw [←hf2.out];rfl),rfl⟩
theorem eM {a b k:Int} (h1:-k<=a) (h2:a<=k) (hb:0<b) (hk:0<=k):-k<=a / b/\a / b<=k:=by
 have e1:=Int.mul_ediv_add_emod a b;have e2:=Int.emod_nonneg a (by omega:b≠0);have e3:=Int.emod_lt_of_pos a hb
 constructor
 ·rcases Int.lt_or_le (a / b) (-k) with h | h
  ·have:b*(a / b)<=b*(-k - 1):=Int.mul_le_mul_of_nonneg_left ω ω
   have h4:b*(-k - 1)<=1*(-k - 1):=Int.mul_le_mul_of_nonpos_right ω ω
   have h5:b*(-k - 1)=b*(-k) - b:=by rw [Int.mul_sub,Int.mul_one]
   have h6:b*(-k)<=1*(-k):=Int.mul_le_mul_of_nonpos_right ω ω;omega
  exact h
 rcases Int.lt_or_le k (a / b) with h | h
 ·have h4:b*(k+1)<=b*(a / b):=Int.mul_le_mul_of_nonneg_left ω ω
  have h5:1*(k+1)<=b*(k+1):=Int.mul_le_mul_of_nonneg_right ω ω;omega
 exact h
theorem BO (a b:Int) (w:World) (h1:-4000000000000000000<=a) (h2:a<=4000000000000000000) (hb:0<b) (hb2:b<=4000000000000000000) :
  cP 144 #[a,b] w (.int .i64 (-(-a / b))):=by
 have P:=fun W=>np (-a) b W ω ω hb hb2
 have hq:=eM (a:=-a) (b:=b) (k:=4000000000000000000) ω ω hb ω;obtain ⟨q1,q2⟩:=hq;generalize -a / b=q at *;replace P:=IU P;go_enter func144,ntmps144
 go_wp2_with (go_at_call 143;with_reducible refine Id (P.out _) ?_)
 go_ret;exact ⟨rfl,rfl⟩
theorem ru (lo hi:Int) (w:World) :
  cB 149 #[.agg #[lo,hi]] w (aJ lo hi):=by
 unfold aJ
 by_cases h1:lo<=hi
 ·by_cases h2:-409600000<=lo
  ·by_cases h3:hi<=409600000
   all_goals
    go_enter func149,ntmps149
    go_wp2;go_ret;exact ⟨fO (by simp [h1,h2,h3]),Jz⟩
  go_enter func149,ntmps149
  go_wp2;go_ret;exact ⟨fO (by simp [h1,h2] <;> omega),Jz⟩
 go_enter func149,ntmps149
 go_wp2;go_ret;exact ⟨fO (by simp [h1] <;> omega),Jz⟩
theorem GW (a b c d:Int) (w:World) (h1:-4000000000000000000<=a) (h2:a<=4000000000000000000) (h3:-4000000000000000000<=b) (h4:b<=4000000000000000000) (h5:-4000000000000000000<=c) (h6:c<=4000000000000000000) (h7:-4000000000000000000<=d) (h8:d<=4000000000000000000) :
  cB 136 #[.agg #[a,b],.agg #[c,d]] w (.agg #[(a+c:Int),(b+d:Int)]):=by
 go_enter func136,ntmps136
 go_wp2;exact D_ results136 ⟨rfl,Jz⟩
theorem Dp (a b c d:Int) (w:World) (h1:-4000000000000000000<=a) (h2:a<=4000000000000000000) (h3:-4000000000000000000<=b) (h4:b<=4000000000000000000) (h5:-4000000000000000000<=c) (h6:c<=4000000000000000000) (h7:-4000000000000000000<=d) (h8:d<=4000000000000000000) :
  cB 137 #[.agg #[a,b],.agg #[c,d]] w (.agg #[(a - d:Int),(b - c:Int)]):=by
 go_enter func137,ntmps137
 go_wp2;exact D_ results137 ⟨rfl,Jz⟩
theorem AH (a b c d:Int) (w:World) :
  cB 156 #[.agg #[a,b],.agg #[c,d]] w (.agg #[(max a c:Int),(min b d:Int)]):=by
 go_enter func156,ntmps156
 go_wp2;exact D_ results156 ⟨rfl,Jz⟩
namespace M
def co (a b c d:Int):Int:=min (a*c) (min (a*d) (min (b*c) (b*d)))
def cj (a b c d:Int):Int:=max (a*c) (max (a*d) (max (b*c) (b*d)))
theorem FO {a b c d:Int} (h1:-1000000000<=a) (h2:a<=1000000000) (h3:-1000000000<=b) (h4:b<=1000000000) (h5:-1000000000<=c) (h6:c<=1000000000) (h7:-1000000000<=d) (h8:d<=1000000000) :
  -1000000000000000000<=co a b c d/\co a b c d<=1000000000000000000/\-1000000000000000000<=cj a b c d/\cj a b c d<=1000000000000000000:=by
 have q1:=aH (x:=a) (y:=c) (m:=1000000000) (n:=1000000000) h1 h2 h5 h6;have q2:=aH (x:=a) (y:=d) (m:=1000000000) (n:=1000000000) h1 h2 h7 h8;have q3:=aH (x:=b) (y:=c) (m:=1000000000) (n:=1000000000) h3 h4 h5 h6;have q4:=aH (x:=b) (y:=d) (m:=1000000000) (n:=1000000000) h3 h4 h7 h8;unfold co cj;omega
end M
theorem CQ {P:Program} (ts:Array TypeId) (t:TypeId) (p q r s:Int) (W:World):Sem.run P (Builtin.min_ ts t #[p,q,r,s]) W=.ok (.int .i64 (min p (min q (min r s)))) W:=by
 simp [Builtin.min_,Builtin.min2]
 repeat' split
 all_goals omega
theorem CP {P:Program} (ts:Array TypeId) (t:TypeId) (p q r s:Int) (W:World):Sem.run P (Builtin.max_ ts t #[p,q,r,s]) W=.ok (.int .i64 (max p (max q (max r s)))) W:=by
 simp [Builtin.max_,Builtin.max2]
 repeat' split
 all_goals omega
theorem Ef (a b c d:Int) (w:World) (h1:-1000000000<=a) (h2:a<=1000000000) (h3:-1000000000<=b) (h4:b<=1000000000) (h5:-1000000000<=c) (h6:c<=1000000000) (h7:-1000000000<=d) (h8:d<=1000000000) :
  cB 135 #[.agg #[a,b],.agg #[c,d]] w (.agg #[(co a b c d / 4096:Int),(-(-cj a b c d / 4096):Int)]):=by
 have q1:=aH (x:=a) (y:=c) (m:=1000000000) (n:=1000000000) h1 h2 h5 h6;have q2:=aH (x:=a) (y:=d) (m:=1000000000) (n:=1000000000) h1 h2 h7 h8;have q3:=aH (x:=b) (y:=c) (m:=1000000000) (n:=1000000000) h3 h4 h5 h6;have q4:=aH (x:=b) (y:=d) (m:=1000000000) (n:=1000000000) h3 h4 h7 h8;obtain ⟨t1,t2,t3,t4⟩:=FO h1 h2 h3 h4 h5 h6 h7 h8;have J0:co a b c d=min (a*c) (min (a*d) (min (b*c) (b*d))):=rfl;have hma:cj a b c d=max (a*c) (max (a*d) (max (b*c) (b*d))):=rfl
 have P1:=fun W=>gZ (co a b c d) 4096 W ω ω ω ω
 have P2:=fun W=>gZ (-cj a b c d) 4096 W ω ω ω ω
 have f2:=eM (a:=-cj a b c d) (b:=4096) (k:=1000000000000000000) ω ω ω ω;obtain ⟨f3,f4⟩:=f2;replace P1:=IU P1;replace P2:=IU P2;generalize cj a b c d=ma,co a b c d=mi at *;obtain ⟨wc,hw3,S,T,R,B⟩:=dB w #[a,b] 74 #[c,d] 74 #[(0:Int),(0:Int)] 74;replace J0:=IU J0;replace hma:=IU hma;go_enter func135,ntmps135
 go_wp2
 go_upto_region 1 with fail
 refine b8 24 [.is (.pointer (some ⟨w,0,none⟩)),.is a,.is (.pointer (some ⟨w.heap.size+1,0,none⟩)),.is c,.is (a*c:Int),.is (.pointer (some ⟨w,0,none⟩)),.is a,.is (.pointer (some ⟨w.heap.size+1,1,none⟩)),.is d,.is (a*d:Int),.is (.pointer (some ⟨w,1,none⟩)),.is b,.is (.pointer (some ⟨w.heap.size+1,0,none⟩)),.is c,.is (b*c:Int),.is (.pointer (some ⟨w,1,none⟩)),.is b,.is (.pointer (some ⟨w.heap.size+1,1,none⟩)),.is d,.is (b*d:Int),.is (a*c:Int),.is (a*d:Int),.is (b*c:Int),.is (b*d:Int)] κ κ κ ⟨?_,?_,?_,?_,?_,?_,?_,?_,?_,?_,?_,?_,?_,?_,?_,?_,?_,?_,?_,?_,?_,?_,?_,?_,trivial⟩ ?_
 all_goals try ((first | (refine Rg.b1 ?_;intro zZ w_ hB e) | (refine Rg.b2 ?_;intro zZ w_ hB e f));have kz:=aE hB S.box.c0;have kz:=aE hB T.box.c0;have kz:=aE hB T.box.c1;have kz:=aE hB S.box.c1;(first | (go_simp;done) | (go_simp;exact Rg.wo ω)))
 intro vals wz hB hv hne;have OX:vals 20=.int .i64 (a*c):=hv 20 δ;have S9:vals 21=.int .i64 (a*d):=hv 21 δ;have MI:vals 22=.int .i64 (b*c):=hv 22 δ;have OY:vals 23=.int .i64 (b*d):=hv 23 δ;simp only [bD,Rg.fill,Act.put,Nat.reduceAdd];clear hv;simp only [OX,S9,MI,OY];clear OX S9 MI OY;replace R:=R.keep hB;have ⟨c0,c1,f0,f1,_⟩:=R.box;have hw4:=j_ B hB;clear S T hw3 hB B;generalize b*d=s,b*c=r,a*d=q,a*c=p at *;unfold aV;have P3:=P1.out;have P4:=P2.out;rw [J0.out] at P3;rw [hma.out] at P4;replace P3:=IU P3;replace P4:=IU P4;rw [J0.out] at t1 t2;rw [hma.out] at t3 t4 f3 f4;clear P1 P2
 have m4:=fun (W:World) ts t=>CQ (P:=prog) ts t p q r s W
 have x4:=fun (W:World) ts t=>CP (P:=prog) ts t p q r s W
 rw [show w.heap.size+2=w.heap.size+1+1 by omega] at c0 c1 f0 f1
 go_wp2_with (go_at_call 130;first | (with_reducible refine Id (P3.out _) ?_) | (with_reducible refine Id (P4.out _) ?_))
 exact D_ (v:=.agg #[(min p (min q (min r s)) / 4096:Int),(-(-max p (max q (max r s)) / 4096):Int)]) results135 ⟨by rw [J0.out,hma.out],Jz⟩
theorem jQ (a:Int) (w:World) (h:(M.Jr a 4096).isSome=true) :
  cB 151 #[.agg #[M.pn a,M.pd a]] w (.tuple #[a,M.ins a (-409600000) 409600000]):=by
 obtain ⟨hok,d1,d2,hm,hp,g1,g2,n1,n2⟩:=uh h;have N7:=F0 h;obtain ⟨r1,r2⟩:=N7
 have PF:=fun W=>sv (M.pn a) (M.pd a) W
 rw [hok] at PF;generalize M.pd a=d,M.pn a=n at *
 have hd0:¬ d=0:=ω
 have ht:(4096:Int).tmod d=0:=by rw [Int.tmod_eq_emod_of_nonneg ω];exact hm
 have hq:(4096:Int).tdiv d=4096 / d:=Int.tdiv_eq_ediv_of_nonneg ω
 have PI:=fun W=>dW a (-409600000) 409600000 W
 replace PF:=IU PF;replace PI:=IU PI;clear h hok;generalize 4096 / d=g at *;have hq2:=IU hq;have hp2:=IU hp;have hw1:=IU (show IntKind.i64.wrap g=g from IntWalk.i64_in _ ω);have hw2:=IU (show IntKind.i64.wrap (n*g)=a by rw [hp];exact IntWalk.i64_in _ ω);clear hq hp;have hm2:=IU hm;obtain ⟨wc,hw3,V,B⟩:=cf w #[n,d] 49;have Ir:=V.box.c0;have Is:=V.box.c1;go_enter func151,ntmps151
 go_upto_region 3 with (go_at_call 101;with_reducible refine p_ (PF.out _) fun w4 hb4=>?_;replace ⟨V,B⟩:=Im hb4 V B;(replace ⟨Ir,Is⟩:=V.b2))
 refine b8 7 [.is (.pointer (some ⟨w,0,none⟩)),.is n,.is (.pointer (some ⟨w,1,none⟩)),.is d,.is g,.is a,.is a] κ κ κ ⟨?_,?_,?_,?_,?_,?_,?_,trivial⟩ ?_
 all_goals try ((first | (refine Rg.b1 ?_;intro zZ w_ hB e) | (refine Rg.b2 ?_;intro zZ w_ hB e f));have kz:=aE hB V.box.c0;have kz:=aE hB V.box.c1;have ec:=Rg.ec zZ;(first | (go_simp;done) | (go_simp;first | done | (rw [hq2.out];first | done | rw [hw1.out] | (exact ⟨hd0,by rw [hw1.out]⟩)) | (simp only [hq2.out,hw1.out];done) | (simp [hq2.out,hw1.out,hd0];done);done) | (go_simp;first | done | (rw [hw2.out];done) | exact hw2.out;done)))
 intro vals wz hB hv hne;have Mt:vals 6=.int .i64 a:=hv 6 δ;simp only [bD,Rg.fill,Act.put,Nat.reduceAdd];clear hv;simp only [Mt];clear Mt;unfold aV
 go_wp2_with (go_at_call 35;with_reducible refine Id (PI.out _) ?_)
 go_ret2;exact ⟨rfl,j_ B hB⟩
theorem oL (a b:Int) (w:World) (h1:(M.Jr a 4096).isSome=true) (h2:(M.Jr b 4096).isSome=true) :
  cB 153 #[.agg #[M.pn a,M.pd a,M.pn b,M.pd b]] w (aJ a b):=by
 have P1:=IU fun W=>jQ a W h1
 have P2:=IU fun W=>jQ b W h2
 have hs:aJ a b=(M.ins a (-409600000) 409600000 && M.ins b (-409600000) 409600000 && decide (a<=b)):=by
  rw [Bool.eq_iff_iff];unfold aJ M.ins;simp only [Bool.and_eq_true,decide_eq_true_eq];omega
 rw [hs];clear hs;generalize M.pd b=d2,M.pn b=n2,M.pd a=d1,M.pn a=n1 at *;obtain ⟨wc,hw3,V,B⟩:=cf w #[n1,d1,n2,d2] 78;have Ir:=V.aK.c0;have Is:=V.aK.c1;have Jf:=V.aK.c2;have Jg:=V.aK.c3;generalize M.ins b (-409600000) 409600000=i2,M.ins a (-409600000) 409600000=i1 at *
 by_cases hab:a<=b <;> cases i1 <;> cases i2
 all_goals
  go_enter func153,ntmps153
  go_wp2_with (go_at_call 151;first | (with_reducible refine p_ (P1.out _) fun w4 hb4=>?_;have V4:=V.keep hb4;have B4:=j_ B hb4;have y0:=V4.aK.c0;have y1:=V4.aK.c1;have y2:=V4.aK.c2;have y3:=V4.aK.c3) | (with_reducible refine p_ (P2.out _) fun w5 hb5=>?_;have B5:=j_ B4 hb5))
  all_goals
   go_ret;exact ⟨by first | rfl | (simp [hab];done) | (exact fO (by simp [hab];done)) | (exact fO (by simp <;> omega)),B5⟩
theorem fC (a b:Int) (w:World) (h1:(M.Jr a 4096).isSome=true) (h2:(M.Jr b 4096).isSome=true) :
  cB 140 #[.agg #[M.pn a,M.pd a,M.pn b,M.pd b]] w (.tuple #[a,b]):=by
 have P1:=IU fun W=>jQ a W h1
 have P2:=IU fun W=>jQ b W h2
 generalize M.ins b (-409600000) 409600000=i2,M.ins a (-409600000) 409600000=i1,M.pd b=d2,M.pn b=n2,M.pd a=d1,M.pn a=n1 at *;obtain ⟨wc,hw3,V,B⟩:=cf w #[n1,d1,n2,d2] 78;have Ir:=V.aK.c0;have Is:=V.aK.c1;have Jf:=V.aK.c2;have Jg:=V.aK.c3;go_enter func140,ntmps140
 go_wp2_with (go_at_call 151;first | (with_reducible refine p_ (P1.out _) fun w4 hb4=>?_;have V4:=V.keep hb4;have B4:=j_ B hb4;have y0:=V4.aK.c0;have y1:=V4.aK.c1;have y2:=V4.aK.c2;have y3:=V4.aK.c3) | (with_reducible refine p_ (P2.out _) fun w5 hb5=>?_;have B5:=j_ B4 hb5))
 go_ret2;exact ⟨rfl,B5⟩
end
section
open M
namespace M
theorem oK {p:Int} (h:1<=p):∀ k:Nat,1<=dc p k
 | 0=>by simp [dc]
 | k+1=>by
  have h1:=oK h k;have:=Int.mul_le_mul h1 h ω ω
  simpa [dc] using this
theorem yK {p:Int} (h:1<=p) (k:Nat):dc p k<=dc p (k+1):=by
 have h1:=oK h k;have:=Int.mul_le_mul_of_nonneg_left h (show 0<=dc p k by omega);simp only [dc];omega
theorem ph {p:Int} (h:1<=p) {i j:Nat} (hij:i<=j):dc p i<=dc p j:=by
 induction j with
 | zero=>
      obtain rfl:i=0:=ω
      exact Int.le_refl _
 | succ j ih=>
 rcases Nat.lt_or_ge i (j+1) with q | q
 ·exact Int.le_trans (ih ω) (yK h j)
 obtain rfl:i=j+1:=ω
 exact Int.le_refl _
def Ev (p:Int) (d:Nat):Prop:=dc p d<=1000000000/\1000000000<dc p (d+1)
theorem Ev.le {p:Int} {d j:Nat} (hp:1<=p) (h:Ev p d) (hj:j<=d):dc p j<=1000000000:=Int.le_trans (ph hp hj) h.1
end M
end
section
open Go.RowKit open M
theorem tG (p:Int) (k:Nat) (w:World) (p1:1<=p) (hb:dc p k<=4000000000000000000) (hk:k<=1000) :
  cP 30 #[p,k] w (.int .i64 (dc p k)):=by
 go_enter func30,ntmps30
 go_wp2
 go_loop [5,7] (fun vo vi=>∃ j:Nat,j<=k/\vi=.int .i64 j/\vo=.int .i64 (dc p j)) (fun _ vi=>(k - (intOf vi).toNat))
 case atStart=>exact ⟨0,ω,rfl,rfl⟩
 case round=>
 obtain ⟨j,hj,rfl,rfl⟩:=hrel
 by_cases hlt:j<k
 ·have h1:=oK p1 j
  have h2:=ph p1 (show j+1<=k from hlt);have h3:dc p j*p<=4000000000000000000:=Int.le_trans h2 hb;have h4:0<=dc p j*p:=Int.mul_nonneg ω ω;go_wp2
  go_round
  case rel=>exact ⟨j+1,ω,ν,rfl⟩
  case measure=>simp [intOf];omega
 obtain rfl:j=k:=ω
 go_wp2;go_ret;exact ⟨rfl,rfl⟩
theorem pq (a b:Int) (w:World) :
  cP 141 #[a,b] w (.int .i64 (min a b)):=by
 by_cases h:a<b
 ·have h2:min a b=a:=ω
  rw [h2];go_enter func141,ntmps141
  go_wp2;go_ret;exact ⟨rfl,rfl⟩
 have h2:min a b=b:=ω
 rw [h2];go_enter func141,ntmps141
 go_wp2;go_ret;exact ⟨rfl,rfl⟩
end
section
open Go.RowKit open Gr M Rg Rw Wh
theorem M.Gq {a b:Int} (h:(M.Jr a 4096).isSome=false∨(M.Jr b 4096).isSome=false):aJ a b=false:=by
 cases hs:aJ a b with
 | false=>rfl
 | true=>
 obtain ⟨h1,h2,h3⟩:=cG hs;rw [bI ω ω,bI ω ω] at h;simp at h
theorem iz (a b:Int) (w:World) (h1:-4000000000000000000<=a) (h2:a<=4000000000000000000) (h3:-4000000000000000000<=b) (h4:b<=4000000000000000000) :
  cB 142 #[a,b] w (.tuple #[.agg #[M.pick (aJ (a) (b)) (M.pn (a)),M.pick (aJ (a) (b)) (M.pd (a)),M.pick (aJ (a) (b)) (M.pn (b)),M.pick (aJ (a) (b)) (M.pd (b))],aJ (a) (b)]):=by
 have P1:=fun W=>sw a 4096 W h1 h2 ω ω ω
 have P2:=fun W=>sw b 4096 W h3 h4 ω ω ω
 have PG:=fun W (q1:(M.Jr a 4096).isSome=true) (q2:(M.Jr b 4096).isSome=true)=>oL a b W q1 q2
 have hno:=@Gq a b;have e1:=IU (show M.pn a=M.fN (M.Jr a 4096) from rfl);have e2:=IU (show M.pd a=M.fD (M.Jr a 4096) from rfl);have e3:=IU (show M.pn b=M.fN (M.Jr b 4096) from rfl);have e4:=IU (show M.pd b=M.fD (M.Jr b 4096) from rfl);rw [e1.out,e2.out,e3.out,e4.out] at PG ⊢;generalize M.fD (M.Jr b 4096)=p4,M.fN (M.Jr b 4096)=p3,M.fD (M.Jr a 4096)=p2,M.fN (M.Jr a 4096)=p1,(M.Jr b 4096).isSome=o2,(M.Jr a 4096).isSome=o1 at *;replace P1:=IU P1;replace P2:=IU P2;obtain ⟨wc,hw3,R,B⟩:=cf w #[(0:Int),(0:Int),(0:Int),(0:Int)] 78
 cases o1 with
 | false=>
  rw [hno (Or.inl rfl)];go_enter func142,ntmps142
  go_wp2_with (first
   | (go_at_call 152;with_reducible refine p_ (P1.out _) fun w4 hb4=>?_;replace ⟨R,B⟩:=Im hb4 R B;have F:=aG.new w4 #[p1,p2] 49;have b_:=bA w4 (.cells #[p1,p2] 49);replace ⟨R,B⟩:=Im b_ R B;(replace ⟨B_,C_,F_,G_,y_,A_,IZ,Ia⟩:=R.I0);(replace ⟨Kk,Kl⟩:=F.b2))
   | (go_at_call 152;with_reducible refine p_ (P2.out _) fun w5 hb5=>?_;replace ⟨R,F,B⟩:=I7 hb5 R F B;have G:=aG.new w5 #[p3,p4] 49;have b_:=bA w5 (.cells #[p3,p4] 49);replace ⟨R,F,B⟩:=I7 b_ R F B;(replace ⟨B_,C_,F_,G_,y_,A_,IZ,Ia⟩:=R.I0);(replace ⟨Kk,Kl⟩:=F.b2);(replace ⟨Mx,My⟩:=G.b2);have O:=aG.new (w5.alloc (.cells #[p3,p4] 49)) #[p1,p2,p3,p4] 78;have b_:=bA (w5.alloc (.cells #[p3,p4] 49)) (.cells #[p1,p2,p3,p4] 78);replace ⟨R,F,G,B⟩:=Ip b_ R F G B;(rw [IV] at O);have KJ:=O.aK.c0;have KL:=O.aK.c1;have KM:=O.aK.c2;have KN:=O.aK.c3;have B_:=R.aK.c0;have C_:=R.aK.c1;have F_:=R.aK.c2;have G_:=R.aK.c3;have y_:=R.aK.f0;have A_:=R.aK.f1;have IZ:=R.aK.f2;have Ia:=R.aK.f3))
  exact D_ results142 ⟨rfl,Jk B⟩
 | true=>
 cases o2 with
 | false=>
  rw [hno (Or.inr rfl)];go_enter func142,ntmps142
  go_wp2_with (first
   | (go_at_call 152;with_reducible refine p_ (P1.out _) fun w4 hb4=>?_;replace ⟨R,B⟩:=Im hb4 R B;have F:=aG.new w4 #[p1,p2] 49;have b_:=bA w4 (.cells #[p1,p2] 49);replace ⟨R,B⟩:=Im b_ R B;(replace ⟨B_,C_,F_,G_,y_,A_,IZ,Ia⟩:=R.I0);(replace ⟨Kk,Kl⟩:=F.b2))
   | (go_at_call 152;with_reducible refine p_ (P2.out _) fun w5 hb5=>?_;replace ⟨R,F,B⟩:=I7 hb5 R F B;have G:=aG.new w5 #[p3,p4] 49;have b_:=bA w5 (.cells #[p3,p4] 49);replace ⟨R,F,B⟩:=I7 b_ R F B;(replace ⟨B_,C_,F_,G_,y_,A_,IZ,Ia⟩:=R.I0);(replace ⟨Kk,Kl⟩:=F.b2);(replace ⟨Mx,My⟩:=G.b2);have O:=aG.new (w5.alloc (.cells #[p3,p4] 49)) #[p1,p2,p3,p4] 78;have b_:=bA (w5.alloc (.cells #[p3,p4] 49)) (.cells #[p1,p2,p3,p4] 78);replace ⟨R,F,G,B⟩:=Ip b_ R F G B;(rw [IV] at O);have KJ:=O.aK.c0;have KL:=O.aK.c1;have KM:=O.aK.c2;have KN:=O.aK.c3;have B_:=R.aK.c0;have C_:=R.aK.c1;have F_:=R.aK.c2;have G_:=R.aK.c3;have y_:=R.aK.f0;have A_:=R.aK.f1;have IZ:=R.aK.f2;have Ia:=R.aK.f3))
  exact D_ results142 ⟨rfl,Jk B⟩
 | true=>
 have Oa:=fun W=>PG W rfl rfl
 cases hs:aJ a b with
 | true=>
  rw [hs] at Oa;replace Oa:=IU Oa;go_enter func142,ntmps142
  go_wp2_with (first
   | (go_at_call 152;with_reducible refine p_ (P1.out _) fun w4 hb4=>?_;replace ⟨R,B⟩:=Im hb4 R B;have F:=aG.new w4 #[p1,p2] 49;have b_:=bA w4 (.cells #[p1,p2] 49);replace ⟨R,B⟩:=Im b_ R B;(replace ⟨B_,C_,F_,G_,y_,A_,IZ,Ia⟩:=R.I0);(replace ⟨Kk,Kl⟩:=F.b2))
   | (go_at_call 152;with_reducible refine p_ (P2.out _) fun w5 hb5=>?_;replace ⟨R,F,B⟩:=I7 hb5 R F B;have G:=aG.new w5 #[p3,p4] 49;have b_:=bA w5 (.cells #[p3,p4] 49);replace ⟨R,F,B⟩:=I7 b_ R F B;(replace ⟨B_,C_,F_,G_,y_,A_,IZ,Ia⟩:=R.I0);(replace ⟨Kk,Kl⟩:=F.b2);(replace ⟨Mx,My⟩:=G.b2);have O:=aG.new (w5.alloc (.cells #[p3,p4] 49)) #[p1,p2,p3,p4] 78;have b_:=bA (w5.alloc (.cells #[p3,p4] 49)) (.cells #[p1,p2,p3,p4] 78);replace ⟨R,F,G,B⟩:=Ip b_ R F G B;(rw [IV] at O);have KJ:=O.aK.c0;have KL:=O.aK.c1;have KM:=O.aK.c2;have KN:=O.aK.c3;have B_:=R.aK.c0;have C_:=R.aK.c1;have F_:=R.aK.c2;have G_:=R.aK.c3;have y_:=R.aK.f0;have A_:=R.aK.f1;have IZ:=R.aK.f2;have Ia:=R.aK.f3)
   | (go_at_call 153;with_reducible refine p_ (Oa.out _) fun w6 hb6=>?_;replace ⟨R,F,G,O,B⟩:=KU hb6 R F G O B;(replace ⟨B_,C_,F_,G_,y_,A_,IZ,Ia⟩:=R.I0);(replace ⟨Kk,Kl⟩:=F.b2);(replace ⟨Mx,My⟩:=G.b2);(replace ⟨KJ,KL,KM,KN⟩:=O.b4)))
  exact D_ results142 ⟨rfl,Jk B⟩
 | false=>
 rw [hs] at Oa;replace Oa:=IU Oa;go_enter func142,ntmps142
 go_wp2_with (first
  | (go_at_call 152;with_reducible refine p_ (P1.out _) fun w4 hb4=>?_;replace ⟨R,B⟩:=Im hb4 R B;have F:=aG.new w4 #[p1,p2] 49;have b_:=bA w4 (.cells #[p1,p2] 49);replace ⟨R,B⟩:=Im b_ R B;(replace ⟨B_,C_,F_,G_,y_,A_,IZ,Ia⟩:=R.I0);(replace ⟨Kk,Kl⟩:=F.b2))
  | (go_at_call 152;with_reducible refine p_ (P2.out _) fun w5 hb5=>?_;replace ⟨R,F,B⟩:=I7 hb5 R F B;have G:=aG.new w5 #[p3,p4] 49;have b_:=bA w5 (.cells #[p3,p4] 49);replace ⟨R,F,B⟩:=I7 b_ R F B;(replace ⟨B_,C_,F_,G_,y_,A_,IZ,Ia⟩:=R.I0);(replace ⟨Kk,Kl⟩:=F.b2);(replace ⟨Mx,My⟩:=G.b2);have O:=aG.new (w5.alloc (.cells #[p3,p4] 49)) #[p1,p2,p3,p4] 78;have b_:=bA (w5.alloc (.cells #[p3,p4] 49)) (.cells #[p1,p2,p3,p4] 78);replace ⟨R,F,G,B⟩:=Ip b_ R F G B;(rw [IV] at O);have KJ:=O.aK.c0;have KL:=O.aK.c1;have KM:=O.aK.c2;have KN:=O.aK.c3;have B_:=R.aK.c0;have C_:=R.aK.c1;have F_:=R.aK.c2;have G_:=R.aK.c3;have y_:=R.aK.f0;have A_:=R.aK.f1;have IZ:=R.aK.f2;have Ia:=R.aK.f3)
  | (go_at_call 153;with_reducible refine p_ (Oa.out _) fun w6 hb6=>?_;replace ⟨R,F,G,O,B⟩:=KU hb6 R F G O B;(replace ⟨B_,C_,F_,G_,y_,A_,IZ,Ia⟩:=R.I0);(replace ⟨Kk,Kl⟩:=F.b2);(replace ⟨Mx,My⟩:=G.b2);(replace ⟨KJ,KL,KM,KN⟩:=O.b4)))
 exact D_ results142 ⟨rfl,Jk B⟩
theorem De (a b c d:Int) (w:World) (hab:aJ a b=true) (hcd:aJ c d=true) :
  cB 122 #[.agg #[M.pn a,M.pd a,M.pn b,M.pd b],.agg #[M.pn c,M.pd c,M.pn d,M.pd d]] w (.tuple #[.agg #[M.pick (aJ (a+c) (b+d)) (M.pn (a+c)),M.pick (aJ (a+c) (b+d)) (M.pd (a+c)),M.pick (aJ (a+c) (b+d)) (M.pn (b+d)),M.pick (aJ (a+c) (b+d)) (M.pd (b+d))],aJ (a+c) (b+d)]):=by
 obtain ⟨ab,a1,b1⟩:=cG hab;obtain ⟨cd,c1,d1⟩:=cG hcd
 have E1:=fun W=>fC a b W (bI ω ω) (bI ω ω)
 have E2:=fun W=>fC c d W (bI ω ω) (bI ω ω)
 have PM:=fun W=>iz (a+c) (b+d) W ω ω ω ω
 generalize aJ (a+c) (b+d)=s,M.pick (aJ (a+c) (b+d)) (M.pd (b+d))=p4,M.pick (aJ (a+c) (b+d)) (M.pn (b+d))=p3,M.pick (aJ (a+c) (b+d)) (M.pd (a+c))=p2,M.pick (aJ (a+c) (b+d)) (M.pn (a+c))=p1 at *;replace PM:=IU PM;replace E1:=IU E1;replace E2:=IU E2;generalize hn1:M.pn a=n1 at *;generalize hd1:M.pd a=d1 at *;generalize hn2:M.pn b=n2 at *;generalize hd2:M.pd b=d2 at *;generalize QI:M.pn c=n3 at *;generalize hd3:M.pd c=d3 at *;generalize SO:M.pn d=n4 at *;generalize hd4:M.pd d=d4 at *;obtain ⟨wc,hw3,V,U,R,B⟩:=dB w #[n1,d1,n2,d2] 78 #[n3,d3,n4,d4] 78 #[(0:Int),(0:Int),(0:Int),(0:Int)] 78;have Ir:=V.aK.c0;have Is:=V.aK.c1;have Jf:=V.aK.c2;have Jg:=V.aK.c3;have Iw:=U.aK.c0;have Ix:=U.aK.c1;have Jp:=U.aK.c2;have Jq:=U.aK.c3;have B_:=R.aK.c0;have C_:=R.aK.c1;have F_:=R.aK.c2;have G_:=R.aK.c3;go_enter func122,ntmps122
 go_wp2_with (first
  | (go_at_call 140;with_reducible refine p_ (E1.out _) fun w4 hb4=>?_;replace ⟨V,U,R,B⟩:=Ip hb4 V U R B;(replace ⟨Ir,Is,Jf,Jg⟩:=V.b4);(replace ⟨Iw,Ix,Jp,Jq⟩:=U.b4);(replace ⟨B_,C_,F_,G_,y_,A_,IZ,Ia⟩:=R.I0))
  | (go_at_call 140;with_reducible refine p_ (E2.out _) fun w5 hb5=>?_;replace ⟨V,U,R,B⟩:=Ip hb5 V U R B;(replace ⟨Ir,Is,Jf,Jg⟩:=V.b4);(replace ⟨Iw,Ix,Jp,Jq⟩:=U.b4);(replace ⟨B_,C_,F_,G_,y_,A_,IZ,Ia⟩:=R.I0))
  | (go_at_call 142;with_reducible refine p_ (PM.out _) fun w6 hb6=>?_;replace ⟨V,U,R,B⟩:=Ip hb6 V U R B;(replace ⟨Ir,Is,Jf,Jg⟩:=V.b4);(replace ⟨Iw,Ix,Jp,Jq⟩:=U.b4);(replace ⟨B_,C_,F_,G_,y_,A_,IZ,Ia⟩:=R.I0)))
 exact D_ results122 ⟨rfl,Jk B⟩
theorem Di (a b c d:Int) (w:World) (hab:aJ a b=true) (hcd:aJ c d=true) :
  cB 123 #[.agg #[M.pn a,M.pd a,M.pn b,M.pd b],.agg #[M.pn c,M.pd c,M.pn d,M.pd d]] w (.tuple #[.agg #[M.pick (aJ (a - d) (b - c)) (M.pn (a - d)),M.pick (aJ (a - d) (b - c)) (M.pd (a - d)),M.pick (aJ (a - d) (b - c)) (M.pn (b - c)),M.pick (aJ (a - d) (b - c)) (M.pd (b - c))],aJ (a - d) (b - c)]):=by
 obtain ⟨ab,a1,b1⟩:=cG hab;obtain ⟨cd,c1,d1⟩:=cG hcd
 have E1:=fun W=>fC a b W (bI ω ω) (bI ω ω)
 have E2:=fun W=>fC c d W (bI ω ω) (bI ω ω)
 have PM:=fun W=>iz (a - d) (b - c) W ω ω ω ω
 generalize aJ (a - d) (b - c)=s,M.pick (aJ (a - d) (b - c)) (M.pd (b - c))=p4,M.pick (aJ (a - d) (b - c)) (M.pn (b - c))=p3,M.pick (aJ (a - d) (b - c)) (M.pd (a - d))=p2,M.pick (aJ (a - d) (b - c)) (M.pn (a - d))=p1 at *;replace PM:=IU PM;replace E1:=IU E1;replace E2:=IU E2;generalize hn1:M.pn a=n1 at *;generalize hd1:M.pd a=d1 at *;generalize hn2:M.pn b=n2 at *;generalize hd2:M.pd b=d2 at *;generalize QI:M.pn c=n3 at *;generalize hd3:M.pd c=d3 at *;generalize SO:M.pn d=n4 at *;generalize hd4:M.pd d=d4 at *;obtain ⟨wc,hw3,V,U,R,B⟩:=dB w #[n1,d1,n2,d2] 78 #[n3,d3,n4,d4] 78 #[(0:Int),(0:Int),(0:Int),(0:Int)] 78;have Ir:=V.aK.c0;have Is:=V.aK.c1;have Jf:=V.aK.c2;have Jg:=V.aK.c3;have Iw:=U.aK.c0;have Ix:=U.aK.c1;have Jp:=U.aK.c2;have Jq:=U.aK.c3;have B_:=R.aK.c0;have C_:=R.aK.c1;have F_:=R.aK.c2;have G_:=R.aK.c3;go_enter func123,ntmps123
 go_wp2_with (first
  | (go_at_call 140;with_reducible refine p_ (E1.out _) fun w4 hb4=>?_;replace ⟨V,U,R,B⟩:=Ip hb4 V U R B;(replace ⟨Ir,Is,Jf,Jg⟩:=V.b4);(replace ⟨Iw,Ix,Jp,Jq⟩:=U.b4);(replace ⟨B_,C_,F_,G_,y_,A_,IZ,Ia⟩:=R.I0))
  | (go_at_call 140;with_reducible refine p_ (E2.out _) fun w5 hb5=>?_;replace ⟨V,U,R,B⟩:=Ip hb5 V U R B;(replace ⟨Ir,Is,Jf,Jg⟩:=V.b4);(replace ⟨Iw,Ix,Jp,Jq⟩:=U.b4);(replace ⟨B_,C_,F_,G_,y_,A_,IZ,Ia⟩:=R.I0))
  | (go_at_call 142;with_reducible refine p_ (PM.out _) fun w6 hb6=>?_;replace ⟨V,U,R,B⟩:=Ip hb6 V U R B;(replace ⟨Ir,Is,Jf,Jg⟩:=V.b4);(replace ⟨Iw,Ix,Jp,Jq⟩:=U.b4);(replace ⟨B_,C_,F_,G_,y_,A_,IZ,Ia⟩:=R.I0)))
 exact D_ results123 ⟨rfl,Jk B⟩
theorem Dj (a b c d:Int) (w:World) (hab:aJ a b=true) (hcd:aJ c d=true) :
  cB 166 #[.agg #[M.pn a,M.pd a,M.pn b,M.pd b],.agg #[M.pn c,M.pd c,M.pn d,M.pd d]] w true:=by
 obtain ⟨ab,a1,b1⟩:=cG hab;obtain ⟨cd,c1,d1⟩:=cG hcd
 have E1:=fun W=>oL a b W (bI ω ω) (bI ω ω)
 have E2:=fun W=>oL c d W (bI ω ω) (bI ω ω)
 rw [hab] at E1;rw [hcd] at E2;generalize M.pd d=d4,M.pn d=n4,M.pd c=d3,M.pn c=n3,M.pd b=d2,M.pn b=n2,M.pd a=d1,M.pn a=n1 at *;replace E1:=IU E1;replace E2:=IU E2;have U:=aG.new (w.alloc (.cells #[n1,d1,n2,d2] 78)) #[n3,d3,n4,d4] 78;rw [IV] at U;have B:=((IX w w).alloc (IY _) (.cells #[n1,d1,n2,d2] 78)).alloc (by rw [IV];omega) (.cells #[n3,d3,n4,d4] 78);go_enter func166,ntmps166
 go_wp2_with (go_at_call 153;first | (with_reducible refine p_ (E1.out _) fun w4 hb4=>?_;have U4:=U.keep hb4;have B4:=j_ B hb4;have y0:=U4.aK.c0;have y1:=U4.aK.c1;have y2:=U4.aK.c2;have y3:=U4.aK.c3) | (with_reducible refine p_ (E2.out _) fun w5 hb5=>?_;have B5:=j_ B4 hb5))
 go_ret;exact ⟨rfl,B5⟩
theorem qL (a b c d:Int) (w:World) (hab:aJ a b=true) (hcd:aJ c d=true) :
  cB 158 #[.agg #[M.pn a,M.pd a,M.pn b,M.pd b],.agg #[M.pn c,M.pd c,M.pn d,M.pd d]] w (.tuple #[.agg #[M.pick (aJ (max a c) (min b d)) (M.pn (max a c)),M.pick (aJ (max a c) (min b d)) (M.pd (max a c)),M.pick (aJ (max a c) (min b d)) (M.pn (min b d)),M.pick (aJ (max a c) (min b d)) (M.pd (min b d))],aJ (max a c) (min b d)]):=by
 obtain ⟨ab,a1,b1⟩:=cG hab;obtain ⟨cd,c1,d1⟩:=cG hcd
 have E1:=fun W=>fC a b W (bI ω ω) (bI ω ω)
 have E2:=fun W=>fC c d W (bI ω ω) (bI ω ω)
 have PT:=IU fun W=>Dj a b c d W hab hcd
 have PX:=IU fun W=>fE a c W
 have PY:=IU fun W=>pq b d W
 have PM:=fun W=>iz (max a c) (min b d) W ω ω ω ω
 generalize aJ (max a c) (min b d)=s,M.pick (aJ (max a c) (min b d)) (M.pd (min b d))=p4,M.pick (aJ (max a c) (min b d)) (M.pn (min b d))=p3,M.pick (aJ (max a c) (min b d)) (M.pd (max a c))=p2,M.pick (aJ (max a c) (min b d)) (M.pn (max a c))=p1 at *;replace PM:=IU PM;replace E1:=IU E1;replace E2:=IU E2;generalize hn1:M.pn a=n1 at *;generalize hd1:M.pd a=d1 at *;generalize hn2:M.pn b=n2 at *;generalize hd2:M.pd b=d2 at *;generalize QI:M.pn c=n3 at *;generalize hd3:M.pd c=d3 at *;generalize SO:M.pn d=n4 at *;generalize hd4:M.pd d=d4 at *;obtain ⟨wc,hw3,V,U,R,B⟩:=dB w #[n1,d1,n2,d2] 78 #[n3,d3,n4,d4] 78 #[(0:Int),(0:Int),(0:Int),(0:Int)] 78;have Ir:=V.aK.c0;have Is:=V.aK.c1;have Jf:=V.aK.c2;have Jg:=V.aK.c3;have Iw:=U.aK.c0;have Ix:=U.aK.c1;have Jp:=U.aK.c2;have Jq:=U.aK.c3;have B_:=R.aK.c0;have C_:=R.aK.c1;have F_:=R.aK.c2;have G_:=R.aK.c3;go_enter func158,ntmps158
 go_wp2_with (first
  | (go_at_call 166;with_reducible refine p_ (PT.out _) fun w4 hb4=>?_;replace ⟨V,U,R,B⟩:=Ip hb4 V U R B;(replace ⟨Ir,Is,Jf,Jg⟩:=V.b4);(replace ⟨Iw,Ix,Jp,Jq⟩:=U.b4);(replace ⟨B_,C_,F_,G_,y_,A_,IZ,Ia⟩:=R.I0))
  | (go_at_call 140;with_reducible refine p_ (E1.out _) fun w5 hb5=>?_;replace ⟨V,U,R,B⟩:=Ip hb5 V U R B;(replace ⟨Ir,Is,Jf,Jg⟩:=V.b4);(replace ⟨Iw,Ix,Jp,Jq⟩:=U.b4);(replace ⟨B_,C_,F_,G_,y_,A_,IZ,Ia⟩:=R.I0))
  | (go_at_call 140;with_reducible refine p_ (E2.out _) fun w6 hb6=>?_;replace ⟨V,U,R,B⟩:=Ip hb6 V U R B;(replace ⟨Ir,Is,Jf,Jg⟩:=V.b4);(replace ⟨Iw,Ix,Jp,Jq⟩:=U.b4);(replace ⟨B_,C_,F_,G_,y_,A_,IZ,Ia⟩:=R.I0))
  | (go_at_call 94;with_reducible refine Id (PX.out _) ?_)
  | (go_at_call 141;with_reducible refine Id (PY.out _) ?_)
  | (go_at_call 142;with_reducible refine p_ (PM.out _) fun w9 I2=>?_;replace ⟨V,U,R,B⟩:=Ip I2 V U R B;(replace ⟨Ir,Is,Jf,Jg⟩:=V.b4);(replace ⟨Iw,Ix,Jp,Jq⟩:=U.b4);(replace ⟨B_,C_,F_,G_,y_,A_,IZ,Ia⟩:=R.I0)))
 exact D_ results158 ⟨rfl,Jk B⟩
theorem Dh (a b c d:Int) (w:World) (hab:aJ a b=true) (hcd:aJ c d=true) :
  cB 121 #[.agg #[M.pn a,M.pd a,M.pn b,M.pd b],.agg #[M.pn c,M.pd c,M.pn d,M.pd d]] w (.tuple #[.agg #[M.pick (aJ (co a b c d / 4096) (-(-cj a b c d / 4096))) (M.pn (co a b c d / 4096)),M.pick (aJ (co a b c d / 4096) (-(-cj a b c d / 4096))) (M.pd (co a b c d / 4096)),M.pick (aJ (co a b c d / 4096) (-(-cj a b c d / 4096))) (M.pn (-(-cj a b c d / 4096))),M.pick (aJ (co a b c d / 4096) (-(-cj a b c d / 4096))) (M.pd (-(-cj a b c d / 4096)))],aJ (co a b c d / 4096) (-(-cj a b c d / 4096))]):=by
 obtain ⟨ab,a1,b1⟩:=cG hab;obtain ⟨cd,c1,d1⟩:=cG hcd
 have E1:=fun W=>fC a b W (bI ω ω) (bI ω ω)
 have E2:=fun W=>fC c d W (bI ω ω) (bI ω ω)
 have q1:=aH (x:=a) (y:=c) (m:=1000000000) (n:=1000000000);have q2:=aH (x:=a) (y:=d) (m:=1000000000) (n:=1000000000);have q3:=aH (x:=b) (y:=c) (m:=1000000000) (n:=1000000000);have q4:=aH (x:=b) (y:=d) (m:=1000000000) (n:=1000000000);obtain ⟨t1,t2,t3,t4⟩:=FO (a:=a) (b:=b) (c:=c) (d:=d) ω ω ω ω ω ω ω ω
 have J0:min (min (a*c) (a*d)) (min (b*c) (b*d))=co a b c d:=by unfold co;omega
 have hma:max (max (a*c) (a*d)) (max (b*c) (b*d))=cj a b c d:=by unfold cj;omega
 have f1:=eM (a:=co a b c d) (b:=4096) (k:=1000000000000000000) ω ω ω ω;have f2:=eM (a:=-cj a b c d) (b:=4096) (k:=1000000000000000000) ω ω ω ω
 have PX:=IU fun x y W=>fE x y W
 have PY:=IU fun x y W=>pq x y W
 have PD:=fun W=>np (co a b c d) 4096 W ω ω ω ω
 have PU:=fun W=>BO (cj a b c d) 4096 W ω ω ω ω
 have PM:=fun W=>iz (co a b c d / 4096) (-(-cj a b c d / 4096)) W ω ω ω ω
 generalize aJ (co a b c d / 4096) (-(-cj a b c d / 4096))=s,M.pick (aJ (co a b c d / 4096) (-(-cj a b c d / 4096))) (M.pd (-(-cj a b c d / 4096)))=p4,M.pick (aJ (co a b c d / 4096) (-(-cj a b c d / 4096))) (M.pn (-(-cj a b c d / 4096)))=p3,M.pick (aJ (co a b c d / 4096) (-(-cj a b c d / 4096))) (M.pd (co a b c d / 4096))=p2,M.pick (aJ (co a b c d / 4096) (-(-cj a b c d / 4096))) (M.pn (co a b c d / 4096))=p1 at *;replace PM:=IU PM;replace E1:=IU E1;replace E2:=IU E2;generalize cj a b c d=ma,co a b c d=mi,-(-cj a b c d / 4096)=hi,co a b c d / 4096=lo at *
 have PD:=IU fun x W (h:x=mi)=>(h ▸ PD W:cP 143 #[x,(4096:Int)] W (.int .i64 lo))
 have PU:=IU fun x W (h:x=ma)=>(h ▸ PU W:cP 144 #[x,(4096:Int)] W (.int .i64 hi))
 replace J0:=IU J0;replace hma:=IU hma;generalize hn1:M.pn a=n1 at *;generalize hd1:M.pd a=d1 at *;generalize hn2:M.pn b=n2 at *;generalize hd2:M.pd b=d2 at *;generalize QI:M.pn c=n3 at *;generalize hd3:M.pd c=d3 at *;generalize SO:M.pn d=n4 at *;generalize hd4:M.pd d=d4 at *;obtain ⟨wc,hw3,V,U,R,B⟩:=dB w #[n1,d1,n2,d2] 78 #[n3,d3,n4,d4] 78 #[(0:Int),(0:Int),(0:Int),(0:Int)] 78;have Ir:=V.aK.c0;have Is:=V.aK.c1;have Jf:=V.aK.c2;have Jg:=V.aK.c3;have Iw:=U.aK.c0;have Ix:=U.aK.c1;have Jp:=U.aK.c2;have Jq:=U.aK.c3;have B_:=R.aK.c0;have C_:=R.aK.c1;have F_:=R.aK.c2;have G_:=R.aK.c3;go_enter func121,ntmps121
 go_wp2_with (first
  | (go_at_call 140;with_reducible refine p_ (E1.out _) fun w4 hb4=>?_;replace ⟨V,U,R,B⟩:=Ip hb4 V U R B;(replace ⟨Ir,Is,Jf,Jg⟩:=V.b4);(replace ⟨Iw,Ix,Jp,Jq⟩:=U.b4);(replace ⟨B_,C_,F_,G_,y_,A_,IZ,Ia⟩:=R.I0))
  | (go_at_call 140;with_reducible refine p_ (E2.out _) fun w5 hb5=>?_;replace ⟨V,U,R,B⟩:=Ip hb5 V U R B;(replace ⟨Ir,Is,Jf,Jg⟩:=V.b4);(replace ⟨Iw,Ix,Jp,Jq⟩:=U.b4);(replace ⟨B_,C_,F_,G_,y_,A_,IZ,Ia⟩:=R.I0))
  | (go_at_call 94;with_reducible refine Id (PX.out _ _ _) ?_)
  | (go_at_call 141;with_reducible refine Id (PY.out _ _ _) ?_)
  | (go_at_call 143;with_reducible refine Id (PD.out _ _ (by have:=J0.out;omega)) ?_)
  | (go_at_call 144;with_reducible refine Id (PU.out _ _ (by have:=hma.out;omega)) ?_)
  | (go_at_call 142;with_reducible refine p_ (PM.out _) fun TB I6=>?_;replace ⟨V,U,R,B⟩:=Ip I6 V U R B;(replace ⟨Ir,Is,Jf,Jg⟩:=V.b4);(replace ⟨Iw,Ix,Jp,Jq⟩:=U.b4);(replace ⟨B_,C_,F_,G_,y_,A_,IZ,Ia⟩:=R.I0)))
 exact D_ results121 ⟨rfl,Jk B⟩
namespace M
def hL (C:Nat) (n:Nat) (o:Out):Int:=match o with
 | .val x z=>max 0 (3*(fB (.val x z) - 1) - C)*4096 / p4 n
 | _=>0
def hH (C:Nat) (n:Nat) (o:Out):Int:=match o with
 | .val x z=>-(-((3*fB (.val x z)+C)*4096) / p4 n)
 | _=>0
theorem Hr {a b x z:Int} {o:Out} (h:nx a b o=.val x z):Wh.sz x 1000/\Wh.sz z 1000:=by
 cases o with
 | inf=>cases h
 | bad=>cases h
 | val u v=>
 unfold nx at h
 dsimp only at h
 split at h
 ·cases h
 split at h
 ·rename_i hok
  injection h with h1 h2
  subst h1 h2;exact ol (nY hok)
 cases h
theorem oZ {a b X E x z:Int} (hX1:-10000<=X) (hX2:X<=10000) (hE1:0<=E) (hE2:E<=20) {n:Nat} (h:aX a b X E n=.val x z):Wh.sz x 1000/\Wh.sz z 1000:=by
 unfold aX at h
 split at h
 ·cases h
 cases n with
 | zero=>
  have R_:0<=E*E/\E*E<=400:=⟨Int.mul_nonneg hE1 hE1,by have:=Int.mul_le_mul hE2 hE2 hE1 ω;omega⟩
  injection h with h1 h2
  subst h1 h2;exact ⟨aL (be ω ω) ω,aL (be ω ω) ω⟩
 | succ n=>exact Hr h
theorem qR {x z:Int} (h:Wh.sz x 1000/\Wh.sz z 1000):0<=fB (.val x z)/\fB (.val x z)<=14000:=by
 have h1:=oy h.1;have h2:=oy h.2
 show 0<=max ((Wh.bl x.natAbs:Nat):Int) ((Wh.bl z.natAbs:Nat):Int)/\max ((Wh.bl x.natAbs:Nat):Int) ((Wh.bl z.natAbs:Nat):Int)<=14000
 omega
theorem A6 {C n:Nat} {B:Int} (hC:C<=60) (hn:n<=5) (h1:0<=B) (h2:B<=14000):aJ (max 0 (3*(B - 1) - C)*4096 / p4 n) (-(-((3*B+C)*4096) / p4 n))=true:=by
 have hp:=xG n hn;generalize p4 n=d at *;have q1:=eM (a:=max 0 (3*(B - 1) - C)*4096) (b:=d) (k:=300000000) ω ω ω ω;have q2:=eM (a:=-((3*B+C)*4096)) (b:=d) (k:=300000000) ω ω ω ω;have q3:max 0 (3*(B - 1) - C)*4096 / d<=(3*B+C)*4096 / d:=Int.ediv_le_ediv ω ω
 have q4:(3*B+C)*4096 / d<=-(-((3*B+C)*4096) / d):=by
  have e1:=Int.mul_ediv_add_emod ((3*B+C)*4096) d;have e2:=Int.emod_nonneg ((3*B+C)*4096) (by omega:d≠0);have e3:=Int.mul_ediv_add_emod (-((3*B+C)*4096)) d;have e4:=Int.emod_nonneg (-((3*B+C)*4096)) (by omega:d≠0);generalize -((3*B+C)*4096) / d=v,(3*B+C)*4096 / d=u at *
  rcases Int.lt_or_le (-v) u with h | h
  ·have:d*(u+v)≥d*1:=Int.mul_le_mul_of_nonneg_left ω ω
   rw [Int.mul_add] at this;omega
  exact h
 unfold aJ;simp only [Bool.and_eq_true,decide_eq_true_eq];omega
theorem Hj {a b X E:Int} {C n:Nat} (hC:C<=60) (hn:n<=5) (hX1:-10000<=X) (hX2:X<=10000) (hE1:0<=E) (hE2:E<=20):aJ (hL C n (aX a b X E n)) (hH C n (aX a b X E n))=true:=by
 cases h:aX a b X E n with
 | inf=>show aJ 0 0=true;decide
 | bad=>show aJ 0 0=true;decide
 | val x z=>
 have hb:=qR (oZ hX1 hX2 hE1 hE2 h);exact A6 hC hn hb.1 hb.2
end M
theorem sY (a b d:Int) (w:World) (h1:-100000000000<=a) (h2:a<=100000000000) (h3:-100000000000<=b) (h4:b<=100000000000) (h5:1<=d) (h6:d<=100000) :
  cB 162 #[a,b,d] w (.tuple #[.agg #[M.pick (aJ (a*4096 / d) (-(-(b*4096) / d))) (M.pn (a*4096 / d)),M.pick (aJ (a*4096 / d) (-(-(b*4096) / d))) (M.pd (a*4096 / d)),M.pick (aJ (a*4096 / d) (-(-(b*4096) / d))) (M.pn (-(-(b*4096) / d))),M.pick (aJ (a*4096 / d) (-(-(b*4096) / d))) (M.pd (-(-(b*4096) / d)))],aJ (a*4096 / d) (-(-(b*4096) / d))]):=by
 have P1:=fun W=>np (a*4096) d W ω ω ω ω
 have P2:=fun W=>BO (b*4096) d W ω ω ω ω
 have f1:=eM (a:=a*4096) (b:=d) (k:=1000000000000000) ω ω ω ω;have f2:=eM (a:=-(b*4096)) (b:=d) (k:=1000000000000000) ω ω ω ω
 have PM:=fun W=>iz (a*4096 / d) (-(-(b*4096) / d)) W ω ω ω ω
 generalize -(-(b*4096) / d)=hi,a*4096 / d=lo,aJ (a*4096 / d) (-(-(b*4096) / d))=s,M.pick (aJ (a*4096 / d) (-(-(b*4096) / d))) (M.pd (-(-(b*4096) / d)))=p4,M.pick (aJ (a*4096 / d) (-(-(b*4096) / d))) (M.pn (-(-(b*4096) / d)))=p3,M.pick (aJ (a*4096 / d) (-(-(b*4096) / d))) (M.pd (a*4096 / d))=p2,M.pick (aJ (a*4096 / d) (-(-(b*4096) / d))) (M.pn (a*4096 / d))=p1 at *;replace P1:=IU P1;replace P2:=IU P2;replace PM:=IU PM;have R:=aG.new w #[(0:Int),(0:Int),(0:Int),(0:Int)] 78;have B:=(IX w w).alloc (IY _) (.cells #[(0:Int),(0:Int),(0:Int),(0:Int)] 78);go_enter func162,ntmps162
 go_wp2_with (first
  | (go_at_call 143;with_reducible refine Id (P1.out _) ?_)
  | (go_at_call 144;with_reducible refine Id (P2.out _) ?_)
  | (go_at_call 142;with_reducible refine p_ (PM.out _) fun w6 hb6=>?_;replace ⟨R,B⟩:=Im hb6 R B;(replace ⟨B_,C_,F_,G_,y_,A_,IZ,Ia⟩:=R.I0)))
 exact D_ results162 ⟨rfl,Jk B⟩
theorem nw (a b X Y E:Int) (n:Nat) (w:World) (hg:M.good a b=true) (hX1:-10000<=X) (hX2:X<=10000) (hE1:0<=E) (hE2:E<=20) (hn:n<=5) :
  cB 155 #[.agg #[a,b],.agg #[X,Y,E],.int .i64 (n:Int)] w (.tuple #[.agg #[M.hL (M.hC a b) n (aX a b X E n),M.hH (M.hC a b) n (aX a b X E n)],M.isOk (aX a b X E n)]):=by
 have hin:=aY hg
 have PB:=fun W=>z6 a b X Y E n W hg hX1 hX2 hE1 hE2 hn
 have PC:=IU fun W=>jw a b W hin
 have hC:=pg hin
 have hsz:=fun x z (h:aX a b X E n=.val x z)=>qR (oZ hX1 hX2 hE1 hE2 h)
 have hp:=xG n hn
 have XM:M.p4 n=3*dc 4 n:=by
  match n,hn with
  | 0,_=>decide
  | 1,_=>decide
  | 2,_=>decide
  | 3,_=>decide
  | 4,_=>decide
  | 5,_=>decide
 have PP:=IU fun W=>tG 4 n W ω ω ω
 generalize M.hC a b=k,dc 4 n=ip at *;obtain ⟨wc,hw3,C,Q,R,B⟩:=dB w #[a,b] 25 #[X,Y,E] 40 #[(0:Int),(0:Int)] 74;have ⟨q0,q1,q2⟩:=Q.aM;have f_:=C.box.c0;have i_:=C.box.c1
 cases ho:aX a b X E n with
 | inf=>
  rw [ho] at PB;replace PB:=IU PB;go_enter func155,ntmps155
  go_wp2_with (go_at_call 159;with_reducible refine p_ (PB.out _) fun w4 hb4=>?_;replace ⟨C,R,B⟩:=I7 hb4 C R B;(replace ⟨f_,i_⟩:=C.b2);(replace ⟨B_,C_,y_,A_⟩:=R.Jy))
  exact D_ results155 ⟨rfl,Ml B⟩
 | bad=>
  rw [ho] at PB;replace PB:=IU PB;go_enter func155,ntmps155
  go_wp2_with (go_at_call 159;with_reducible refine p_ (PB.out _) fun w4 hb4=>?_;replace ⟨C,R,B⟩:=I7 hb4 C R B;(replace ⟨f_,i_⟩:=C.b2);(replace ⟨B_,C_,y_,A_⟩:=R.Jy))
  exact D_ results155 ⟨rfl,Ml B⟩
 | val x z=>
 rw [ho] at PB;have hb:=hsz x z ho;have e1:M.hL k n (.val x z)=max 0 (3*(fB (.val x z) - 1) - k)*4096 / M.p4 n:=rfl;have e2:M.hH k n (.val x z)=-(-((3*fB (.val x z)+k)*4096) / M.p4 n):=rfl;rw [e1,e2];rw [show M.isInf (.val x z)=false from rfl,show M.isOk (.val x z)=true from rfl] at PB;rw [show M.isOk (.val x z)=true from rfl];generalize fB (.val x z)=bt at *;rw [XM];rw [XM] at hp
 have hm:max 0 (3*(bt - 1) - (k:Int))=max (3*(bt - 1) - (k:Int)) 0:=ω
 rw [hm]
 have F1:=fun W=>gZ (max (3*(bt - 1) - (k:Int)) 0*4096) (3*ip) W ω ω ω ω
 have F2:=fun W=>gZ (-((3*bt+(k:Int))*4096)) (3*ip) W ω ω ω ω
 have F2:=fun x W (h:x=-((3*bt+(k:Int))*4096))=>(by subst h;exact F2 W:cP 130 #[x,(3*ip:Int)] W (.int .i64 (-((3*bt+(k:Int))*4096) / (3*ip))))
 have F1:=fun x W (h:x=max (3*(bt - 1) - (k:Int)) 0*4096)=>(by subst h;exact F1 W:cP 130 #[x,(3*ip:Int)] W (.int .i64 (max (3*(bt - 1) - (k:Int)) 0*4096 / (3*ip))))
 have g2:=eM (a:=-((3*bt+(k:Int))*4096)) (b:=3*ip) (k:=1000000000000000) ω ω ω ω;generalize max (3*(bt - 1) - (k:Int)) 0*4096 / (3*ip)=lo at *;generalize -((3*bt+(k:Int))*4096) / (3*ip)=hi at *;obtain ⟨g2,g3⟩:=g2;obtain ⟨hb1,hb2⟩:=hb;obtain ⟨hp1,hp2⟩:=hp
 have hk2:(k:Int)<=60:=ω
 clear hm XM hC;replace F1:=IU F1;replace F2:=IU F2;replace PB:=IU PB;go_enter func155,ntmps155
 go_wp2_with (first
  | (go_at_call 159;with_reducible refine p_ (PB.out _) fun w4 hb4=>?_;replace ⟨C,R,B⟩:=I7 hb4 C R B;(replace ⟨f_,i_⟩:=C.b2);(replace ⟨B_,C_,y_,A_⟩:=R.Jy))
  | (go_at_call 160;with_reducible refine p_ (PC.out _) fun w5 hb5=>?_;replace ⟨C,R,B⟩:=I7 hb5 C R B;(replace ⟨f_,i_⟩:=C.b2);(replace ⟨B_,C_,y_,A_⟩:=R.Jy))
  | (go_at_call 30;with_reducible refine Id (PP.out _) ?_)
  | (go_at_call 130;first | (with_reducible refine Id (F1.out _ _ ω) ?_) | (with_reducible refine Id (F2.out _ _ ω) ?_)))
 exact D_ results155 ⟨rfl,Ml B⟩
theorem nP (a b X Y E:Int) (n:Nat) (w:World) (hg:M.good a b=true) (hX1:-10000<=X) (hX2:X<=10000) (hE1:0<=E) (hE2:E<=20) (hn:n<=5) :
  cB 157 #[.agg #[a,b],.agg #[X,Y,E],.int .i64 (n:Int)] w (.tuple #[.agg #[M.pick (M.isOk (aX a b X E n)) (M.pn (M.hL (M.hC a b) n (aX a b X E n))),M.pick (M.isOk (aX a b X E n)) (M.pd (M.hL (M.hC a b) n (aX a b X E n))),M.pick (M.isOk (aX a b X E n)) (M.pn (M.hH (M.hC a b) n (aX a b X E n))),M.pick (M.isOk (aX a b X E n)) (M.pd (M.hH (M.hC a b) n (aX a b X E n)))],M.isOk (aX a b X E n)]):=by
 have hin:=aY hg
 have PB:=fun W=>ua a b X Y E n W hg hX1 hX2 hE1 hE2 hn
 have PC:=IU fun W=>qx a b W hin
 have hC:=pg hin;have hp:=xG n hn
 have PP:=IU fun W=>xo n W hn
 have PX:=IU fun x y W=>fE x y W
 have hsp:=fun B h1 h2=>A6 (B:=B) hC hn h1 h2
 generalize M.hC a b=k at *;obtain ⟨wc,hw3,C,Q,R,B⟩:=dB w #[a,b] 25 #[X,Y,E] 40 #[(0:Int),(0:Int),(0:Int),(0:Int)] 78;have ⟨q0,q1,q2⟩:=Q.aM;have f_:=C.box.c0;have i_:=C.box.c1
 cases ho:aX a b X E n with
 | inf=>
  rw [ho] at PB
  have PM:=fun W=>sY 0 0 1 W ω ω ω ω ω ω
  rw [show (0:Int)*4096 / 1=0 by decide,show -(-((0:Int)*4096) / 1)=0 by decide,show aJ 0 0=true by decide] at PM;rw [show M.hL k n .inf=0 from rfl,show M.hH k n .inf=0 from rfl,show M.isOk .inf=true from rfl];generalize M.pick true (M.pd 0)=p2,M.pick true (M.pn 0)=p1 at *;replace PB:=IU PB;replace PM:=IU PM;go_enter func157,ntmps157
  go_wp2_with (first
   | (go_at_call 161;(with_reducible refine (PB.out _).mono ?_);rintro e w4 ⟨v4,en,rfl,Iq,hb4⟩;obtain ⟨rfl,A4,l4,c4,rfl⟩:=Iq;replace ⟨C,R,B⟩:=I7 hb4 C R B;(replace ⟨f_,i_⟩:=C.b2);(replace ⟨B_,C_,F_,G_,y_,A_,IZ,Ia⟩:=R.I0))
   | (go_at_call 162;with_reducible refine p_ (PM.out _) fun w5 hb5=>?_;replace ⟨C,R,B⟩:=I7 hb5 C R B;(replace ⟨f_,i_⟩:=C.b2);(replace ⟨B_,C_,F_,G_,y_,A_,IZ,Ia⟩:=R.I0)))
  exact D_ results157 ⟨rfl,Jk B⟩
 | bad=>
  rw [ho] at PB;rw [show M.isOk .bad=false from rfl];replace PB:=IU PB;go_enter func157,ntmps157
  go_wp2_with (go_at_call 161;(with_reducible refine (PB.out _).mono ?_);rintro e w4 ⟨v4,en,rfl,Iq,hb4⟩;obtain ⟨rfl,A4,l4,c4,rfl,hl4⟩:=Iq;(have hl5:(l4:Int)<=n:=by omega);replace ⟨C,R,B⟩:=I7 hb4 C R B;(replace ⟨f_,i_⟩:=C.b2);(replace ⟨B_,C_,F_,G_,y_,A_,IZ,Ia⟩:=R.I0))
  exact D_ results157 ⟨rfl,Jk B⟩
 | val x z=>
 rw [ho] at PB;have hb:=qR (oZ hX1 hX2 hE1 hE2 ho);have e1:M.hL k n (.val x z)=max 0 (3*(fB (.val x z) - 1) - k)*4096 / M.p4 n:=rfl;have e2:M.hH k n (.val x z)=-(-((3*fB (.val x z)+k)*4096) / M.p4 n):=rfl;rw [e1,e2,show M.isOk (.val x z)=true from rfl];have hs:=hsp _ hb.1 hb.2
 have PD:=IU fun (s r:Bool) v v' W i j (h1:aF W i v (Wh.a_ x.natAbs)) (h2:aF W j v' (Wh.a_ z.natAbs)) (hx:Wh.sz x 1000) (hz:Wh.sz z 1000) (hs:s=decide (x<0)) (hr:r=decide (z<0))=>(hs ▸ hr ▸ Ct x z v v' W i j h1 h2 (aR.2 (aL hx ω)) (aR.2 (aL hz ω)) (Nat.le_trans (oy hx) ω) (Nat.le_trans (oy hz) ω):cB 163 #[.agg #[s,v,r,v']] W (.int .i64 (fB (.val x z))))
 generalize fB (.val x z)=bt at *
 have PM:=fun W=>sY (max 0 (3*(bt - 1) - (k:Int))) (3*bt+(k:Int)) (M.p4 n) W ω ω ω ω ω ω
 rw [hs] at PM;generalize M.pick true (M.pn (max 0 (3*(bt - 1) - (k:Int))*4096 / M.p4 n))=p1 at *;generalize M.pick true (M.pd (max 0 (3*(bt - 1) - (k:Int))*4096 / M.p4 n))=p2 at *;generalize M.pick true (M.pn (-(-((3*bt+(k:Int))*4096) / M.p4 n)))=p3 at *;generalize M.pick true (M.pd (-(-((3*bt+(k:Int))*4096) / M.p4 n)))=p4 at *;obtain ⟨hb1,hb2⟩:=hb
 have hk2:(k:Int)<=60:=ω
 have PM:=IU fun x W (h:x=max 0 (3*(bt - 1) - (k:Int)))=>(by subst h;exact PM W:cB 162 #[x,(3*bt+(k:Int):Int),M.p4 n] W (.tuple #[.agg #[p1,p2,p3,p4],true]))
 clear hs hC hp;generalize M.p4 n=pp at *;replace PB:=IU PB;go_enter func157,ntmps157
 go_upto_region 6 with (go_at_call 161;(with_reducible refine (PB.out _).mono ?_);rintro e w4 ⟨v4,en,rfl,Iq,hb4⟩;obtain ⟨rfl,zx,zz,g,cap,s,av,lv,cv,r,bv,mv,dv,rfl,Pu,Pv,Pw,Px,hss,hrr,ox,oz⟩:=Iq;have ox:=IU ox;have oz:=IU oz;have zx:=IU zx;have zz:=IU zz;replace ⟨C,R,B⟩:=I7 hb4 C R B;(replace ⟨f_,i_⟩:=C.b2);(replace ⟨B_,C_,F_,G_,y_,A_,IZ,Ia⟩:=R.I0))
 refine b8 9 [.is (.slice (some ⟨g,0,none⟩) (n+1) cap),.is (.int .i64 (n:Int)),.is (.pointer (some ⟨g,n*4,none⟩)),.is (.agg #[s,.slice av lv cv,r,.slice bv mv dv]),.is bt,.is (.agg #[a,b]),.is (.int .i64 (k:Int)),.is bt,.is (.int .i64 (k:Int))] κ κ κ ⟨?_,?_,?_,?_,?_,?_,?_,?_,?_,trivial⟩ ?_
 ·refine Rg.b1 ?_;intro zZ w_ hB e
  go_simp
 ·refine Rg.b1 ?_;intro zZ w_ hB e
  go_simp
 ·refine Rg.b2 ?_;intro zZ w_ hB e f
  have Kn:(n:Int)<((n+1:Nat):Int):=ω
  have hlt2_:n<n+1:=ω
  first | (go_simp;done) | (go_simp;omega)
 ·refine Rg.b1 ?_;intro zZ w_ hB e
  have k0:=aE hB Pu;have k1:=aE hB Pv;have k2:=aE hB Pw;have k3:=aE hB Px
  first | (go_simp;done)
 ·refine Rg.o1 ?_;intro zZ w_ hB e
  have ef:=Rg.ef zZ;exact bp rfl γ (PD.out s r _ _ _ _ _ (aF.below ox.out hB) (aF.below oz.out hB) zx.out zz.out hss.out hrr.out)
 ·refine Rg.b1 ?_;intro zZ w_ hB e
  have k0:=aE hB C.box.c0;have k1:=aE hB C.box.c1;go_simp
 ·refine Rg.o1 ?_;intro zZ w_ hB e
  have ef:=Rg.ef zZ;exact bp rfl γ (PC.out _)
 ·refine Rg.b1 ?_;intro zZ w_ hB e
  go_simp
 ·refine Rg.b1 ?_;intro zZ w_ hB e
  go_simp
 intro vals wz hB hv hne;have Kj:vals 7=.int .i64 bt:=hv 7 δ;have NR:vals 8=.int .i64 (k:Int):=hv 8 δ;simp only [bD,Rg.fill,Act.put,Nat.reduceAdd];simp only [Kj,NR];have C2:=C.keep hB;have R2:=R.keep hB;have B2:=j_ B hB;unfold aV;have ⟨y0,y1,y2,y3,x0,x1,x2,x3,_⟩:=R2.aK
 go_wp2_with (first
  | (go_at_call 94;with_reducible refine Id (PX.out _ _ _) ?_)
  | (go_at_call 165;with_reducible refine Id (PP.out _) ?_)
  | (go_at_call 162;with_reducible refine p_ (PM.out _ _ ω) fun w7 Ig=>?_;replace ⟨R2,B2⟩:=Im Ig R2 B2;(replace ⟨R2_c0,R2_c1,R2_c2,R2_c3,R2_f0,R2_f1,R2_f2,R2_f3⟩:=R2.I0)))
 exact D_ results157 ⟨rfl,Jk B2⟩
end
section
open Go Go.RowKit open M Rg
namespace Rg
variable {P:Program} {Q:Exit->Act->World->Prop}
def Val.pure:Val->Bool
 | .is _=>true
 | .num _=>true
 | .such _=>true
 | _=>false
theorem Val.eo {V:Val} (h:V.pure=true) {u:Value} {w w':World} (hu:V.ok u w):V.ok u w':=by
 cases V with
 | is _=>exact hu
 | num _=>exact hu
 | such _=>exact hu
 | _=>cases h
def zC (P:Program) (ops:Array Oper) (Q:Exit->Act->World->Prop) (a0:Act) (T:List Val) (J:World->Prop) (k0:Nat):List Oper->Nat->Prop
 | [],_=>True
 | o
   :: os,k=>(∀ (a:Act) (w:World),J w->(∀ t ∈ o.looksAt ops,qM ops a0 T o a w t)->
   if k=k0 then Region.wanted o (yielded ops a.tmps)=true/\o.wp P a w (fun a' w'=>(∃ v,a'=a.put o.dst v)/\J w'/\∀ v,(JP T k).ok v w') Q else Does P ops Q (JP T k) o a w)/\zC P ops Q a0 T J k0 os (k+1)
theorem CJ {ops:Array Oper} {a0:Act} {T:List Val} {J:World->Prop} {k0:Nat} (hJ:∀ w w',J w->Below w w w'->J w') (hp:∀ j,j≠k0->(JP T j).pure=true):∀ (os:List Oper) (k:Nat),zC P ops Q a0 T J k0 os k->uS P Q .any ops J (fun i v w=>(JP T i).ok v w) a0 os k
 | [],_,_=>trivial
 | o :: os,k,h=>by
  refine ⟨fun a w vals hS hv hr=>?_,CJ hJ hp os (k+1) h.2⟩
  have h1:=h.1 a w hS (fun t ht=>by
   have:=hr t ht;unfold rd at this;unfold qM
   split
   ·rename_i e he
    rw [he] at this;have h2:=List.find?_some he;rw [Bool.and_eq_true] at h2;exact ⟨_,this,hv e (Array.mem_toList_iff.1 (List.mem_of_find?_eq_some he)) h2.1⟩
   rename_i he
   rw [he] at this
   exact this)
  unfold Fg
  split at h1
  ·rename_i hk
   rw [if_pos h1.1];refine Oper.wp_mono ?_ h1.2;rintro a' w' ⟨⟨v,e⟩,h2,h3⟩;refine ⟨v,e,h3 v,h2,fun j u hu=>?_⟩
   by_cases hj:j=k0
   ·subst hj
    subst hk;exact h3 u
   exact Val.eo (hp j hj) hu
  unfold Does at h1
  split
  ·rename_i hw
   rw [if_pos hw] at h1;refine Oper.wp_mono ?_ h1;rintro a' w' ⟨v,e1,e2,e3⟩;exact ⟨v,e1,e2,hJ _ _ hS e3,fun j u hu=>Val.keep e3 _ _ hu⟩
  rename_i hw
  rw [if_neg hw] at h1;exact h1
theorem FT {id:Nat} {ops:Array Oper} {a0:Act} {w:World} (k0:Nat) (T:List Val) (J:World->Prop) (hm:P.follows .mixedOrders=true) (hok:d6 .any ops a0.tmps.size=true)
  (hJ:∀ w w',J w->Below w w w'->J w') (hp:∀ j,j≠k0->(JP T j).pure=true) (h0:J w)
  (hR:zC P ops Q a0 T J k0 ops.toList 0)
  (hF:∀ (vals:Nat->Value) (w':World),J w'->(∀ i,i<ops.size->(JP T i).ok (vals i) w')->Q .normal (fill (fun _=>true) vals ops.toList 0 a0) w'):(Code.region id ops true).wp P Q a0 w:=
 region J (fun i v w'=>(JP T i).ok v w') hm hok (hJ _ _ h0 ((IX _ w).drew)) (CJ hJ hp _ _ hR) hF
end Rg
end
section
open Go.RowKit open Gr M Rg Rw Wh
namespace M
def bL (a b X E:Int):Nat->Int
 | 0=>hL (hC a b) 0 (aX a b X E 0)
 | k+1=>max (bL a b X E k) (hL (hC a b) (k+1) (aX a b X E (k+1)))
def bH (a b X E:Int):Nat->Int
 | 0=>hH (hC a b) 0 (aX a b X E 0)
 | k+1=>min (bH a b X E k) (hH (hC a b) (k+1) (aX a b X E (k+1)))
def MM (a b X E:Int):Nat->Nat->Nat
 | 0,k=>k
 | f+1,k=>if isOk (aX a b X E (k+1))=true then MM a b X E f (k+1) else k
def bN (a b X E:Int):Nat:=MM a b X E 5 0
def Jm (a b X E:Int):Bool:=aJ (bL a b X E (bN a b X E)) (bH a b X E (bN a b X E))
theorem zl {a b X E:Int}:∀ f k:Nat,k<=MM a b X E f k
 | 0,_=>IY _
 | f+1,k=>by
  unfold MM
  split
  ·exact Nat.le_of_succ_le (zl f (k+1))
  exact IY _
theorem zo {a b X E:Int}:∀ f k:Nat,MM a b X E f k<=k+f
 | 0,_=>IY _
 | f+1,k=>by
  unfold MM
  split
  ·have:=zo (a:=a) (b:=b) (X:=X) (E:=E) f (k+1);omega
  omega
theorem HN {a b X E:Int}:bN a b X E<=5:=zo 5 0
theorem FD {a b X E:Int}:isOk (aX a b X E 0)=true:=by
 unfold aX
 split <;> rfl
theorem A5 {a b X E:Int} {n:Nat} (hin:ay a b=true) (hn:n<=5) (hX1:-10000<=X) (hX2:X<=10000) (hE1:0<=E) (hE2:E<=20):-409600000<=hL (hC a b) n (aX a b X E n)/\hL (hC a b) n (aX a b X E n)<=409600000/\-409600000<=hH (hC a b) n (aX a b X E n)/\hH (hC a b) n (aX a b X E n)<=409600000:=by
 have:=cG (Hj (a:=a) (b:=b) (C:=hC a b) (pg hin) hn hX1 hX2 hE1 hE2);omega
theorem Fl {a b X E:Int} (hin:ay a b=true) (hX1:-10000<=X) (hX2:X<=10000) (hE1:0<=E) (hE2:E<=20):∀ k:Nat,k<=5->-409600000<=bL a b X E k/\bL a b X E k<=409600000/\-409600000<=bH a b X E k/\bH a b X E k<=409600000
 | 0,h=>A5 hin h hX1 hX2 hE1 hE2
 | k+1,h=>by
  have h1:=Fl hin hX1 hX2 hE1 hE2 k ω;have h2:=A5 (n:=k+1) hin h hX1 hX2 hE1 hE2;unfold bL bH;omega
theorem uW {a b X E:Int} {k:Nat}:∀ n:Nat,k<=n->bL a b X E k<=bL a b X E n/\bH a b X E n<=bH a b X E k
 | 0,h=>by
        obtain rfl:k=0:=ω
        exact ⟨Int.le_refl _,Int.le_refl _⟩
 | n+1,h=>by
  by_cases e:k=n+1
  ·subst e;exact ⟨Int.le_refl _,Int.le_refl _⟩
  have:=uW (a:=a) (b:=b) (X:=X) (E:=E) (k:=k) n ω;have e1:bL a b X E (n+1)=max (bL a b X E n) (hL (hC a b) (n+1) (aX a b X E (n+1))):=rfl;have e2:bH a b X E (n+1)=min (bH a b X E n) (hH (hC a b) (n+1) (aX a b X E (n+1))):=rfl;omega
theorem HQ {a b X E:Int} (hin:ay a b=true) (hX1:-10000<=X) (hX2:X<=10000) (hE1:0<=E) (hE2:E<=20) {k:Nat} (hk:k<=bN a b X E) (h:aJ (bL a b X E k) (bH a b X E k)=false):Jm a b X E=false:=by
 cases hb:Jm a b X E with
 | false=>rfl
 | true=>
 have hN:=HN (a:=a) (b:=b) (X:=X) (E:=E);have h1:=cG hb;have h2:=uW (a:=a) (b:=b) (X:=X) (E:=E) _ hk;have h3:=Fl hin hX1 hX2 hE1 hE2 k ω
 exfalso
 have:aJ (bL a b X E k) (bH a b X E k)=true:=by
  unfold aJ;simp only [Bool.and_eq_true,decide_eq_true_eq];omega
 rw [this] at h;cases h
end M
theorem qP (a b X Y E:Int) (w:World) (hg:M.good a b=true) (hX1:-10000<=X) (hX2:X<=10000) (hE1:0<=E) (hE2:E<=20) :
  cB 148 #[.agg #[a,b],.agg #[X,Y,E]] w (.tuple #[.agg #[M.bL a b X E (M.bN a b X E),M.bH a b X E (M.bN a b X E)],.int .i64 ((M.bN a b X E:Nat):Int),M.Jm a b X E]):=by
 have P0:=fun W=>nw a b X Y E 0 W hg hX1 hX2 hE1 hE2 ω
 rw [FD,show ((0:Nat):Int)=0 from rfl] at P0
 have PK:=IU fun (k:Nat) W (hk:k<=5)=>nw a b X Y E k W hg hX1 hX2 hE1 hE2 hk
 have P0:=IU P0;have hL0:=IU (show M.hL (M.hC a b) 0 (aX a b X E 0)=M.bL a b X E 0 from rfl);have hH0:=IU (show M.hH (M.hC a b) 0 (aX a b X E 0)=M.bH a b X E 0 from rfl);have hin:=aY hg
 have hbd:=IU fun k hk=>A5 (a:=a) (b:=b) (X:=X) (E:=E) (n:=k) hin hk hX1 hX2 hE1 hE2
 have hbb:=IU fun k hk=>Fl (a:=a) (b:=b) (X:=X) (E:=E) hin hX1 hX2 hE1 hE2 k hk
 clear hg hin;obtain ⟨wc,hw3,C,Q,R,B⟩:=dB w #[a,b] 25 #[X,Y,E] 40 #[(0:Int),(0:Int)] 74;have ⟨q0,q1,q2⟩:=Q.aM;have f_:=C.box.c0;have i_:=C.box.c1;generalize hu0:M.hL (M.hC a b) 0 (aX a b X E 0)=u0 at *;generalize hv0:M.hH (M.hC a b) 0 (aX a b X E 0)=v0 at *;go_enter func148,ntmps148
 go_wp2_with (go_at_call 155;with_reducible refine p_ (P0.out _) fun w4 hb4=>?_;replace ⟨C,R,B,Q⟩:=Ip hb4 C R B Q;have RB:=IU R.lt;replace Q:=Q.alloc (.cells #[u0,v0] 74);have T:=aG.new w4 #[u0,v0] 74;have b_:=bA w4 (.cells #[u0,v0] 74);replace ⟨C,R,B⟩:=I7 b_ C R B;(replace ⟨f_,i_⟩:=C.b2);(replace ⟨B_,C_,y_,A_⟩:=R.Jy);(replace ⟨JF,JG⟩:=T.b2))
 go_loopw [9] (fun vi wr=>∃ k:Nat,k<=5/\vi=.int .i64 k/\Hid (M.MM a b X E (5 - k) k=M.bN a b X E)/\aG wr w4 74 #[M.bL a b X E k,M.bH a b X E k]/\aG wr w 25 #[a,b]/\aG wr (w.heap.size+1) 40 #[X,Y,E]/\aG wr (w.heap.size+1+1) 74 #[(0:Int),(0:Int)]/\Below w w wr) (fun vi _=>5 - (intOf vi).toNat)
 case atStart=>exact ⟨0,ω,rfl,IU rfl,by rw [←hL0.out,←hH0.out];exact T,C,Q,R,B⟩
 case round=>
 clear C Q R B T P0 hL0 hH0 f_ i_ B_ C_ y_ A_ JF JG q0 q1 q2;have hR9:=RB.out;obtain ⟨k,hk,rfl,hN,T,C,Q,R,B⟩:=hrel;have JF:=T.box.c0;have JG:=T.box.c1;have Ls:=T.box.f0;have Lt:=T.box.f1;have f_:=C.box.c0;have i_:=C.box.c1;have B_:=R.box.c0;have C_:=R.box.c1;have y_:=R.box.f0;have A_:=R.box.f1;have ⟨q0,q1,q2⟩:=Q.aM
 by_cases hlt:k<5
 ·have P1:=fun W=>PK.out (k+1) W ω
  have hNs:M.MM a b X E (5 - k) k=if M.isOk (aX a b X E (k+1))=true then M.MM a b X E (5 - (k+1)) (k+1) else k:=by
   rw [show 5 - k=(5 - (k+1))+1 by omega];rfl
  have eL:M.bL a b X E (k+1)=max (M.bL a b X E k) (M.hL (M.hC a b) (k+1) (aX a b X E (k+1))):=rfl;have eH:M.bH a b X E (k+1)=min (M.bH a b X E k) (M.hH (M.hC a b) (k+1) (aX a b X E (k+1))):=rfl;generalize M.hH (M.hC a b) (k+1) (aX a b X E (k+1))=hh,M.hL (M.hC a b) (k+1) (aX a b X E (k+1))=hl at *
  have PC:=IU fun W=>AH (M.bL a b X E k) (M.bH a b X E k) hl hh W
  cases hok:M.isOk (aX a b X E (k+1)) with
  | false=>
   rw [hok,if_neg δ] at hNs;have MZ:=IU (show M.bN a b X E=k by rw [←hN.out,hNs]);rw [hok] at P1
   have PV:=IU fun W=>ru (M.bL a b X E k) (M.bH a b X E k) W
   have NY:=IU (show M.Jm a b X E=aJ (M.bL a b X E k) (M.bH a b X E k) by unfold M.Jm;rw [MZ.out]);have P1:=IU P1;have hk1:=IU (show ((k+1:Nat):Int)=(k:Int)+1 by omega);have P1:=P1.out;rw [hk1.out] at P1;have P1:=IU P1
   go_upto_region 8 with (go_at_call 155;with_reducible refine p_ (P1.out _) fun w5 hb5=>?_;replace ⟨C,R,T,B,Q⟩:=KU hb5 C R T B Q;replace Q:=Q.alloc (.cells #[hl,hh] 74);have S:=aG.new w5 #[hl,hh] 74;have b_:=bA w5 (.cells #[hl,hh] 74);replace ⟨C,R,T,B⟩:=Ip b_ C R T B;(replace ⟨f_,i_⟩:=C.b2);(replace ⟨B_,C_,y_,A_⟩:=R.Jy);(replace ⟨JF,JG⟩:=T.b2);(replace ⟨Lq,Lr⟩:=S.b2))
   generalize w5.alloc (.cells #[hl,hh] 74)=wd at *;generalize hbk:M.bL a b X E k=bl at *;generalize Lb:M.bH a b X E k=bh at *;replace hbk:=IU hbk;replace Lb:=IU Lb;refine FT 7 [.is (.agg #[bl,bh]),.is (.int .i64 (k:Int)),.is true,.is true,.is (.agg #[bl,bh]),.is (aJ bl bh),.is (aJ bl bh),.at (fun _ W=>aG W (w.heap.size+1+1) 74 #[bl,bh]),.is (.int .i64 (k:Int)),.is (aJ bl bh)] (fun W=>aG W w4 74 #[bl,bh]/\(∃ u v,aG W (w.heap.size+1+1) 74 #[u,v])/\Below w w W) κ κ ?_ (fun j hj=>match j,hj with | 0,hj=>rfl | 1,hj=>rfl | 2,hj=>rfl | 3,hj=>rfl | 4,hj=>rfl | 5,hj=>rfl | 6,hj=>rfl | 7,hj=>absurd rfl hj | 8,hj=>rfl | 9,hj=>rfl | n+10,_=>rfl) ?_ ⟨?_,?_,?_,?_,?_,?_,?_,?_,?_,?_,trivial⟩ ?_
   ·exact fun W W_ h hb=>⟨h.1.keep hb,⟨_,_,h.2.1.choose_spec.choose_spec.keep hb⟩,h.2.2.trans (hb.mono h.2.2.size)⟩
   ·exact ⟨T,⟨_,_,R⟩,B⟩
   ·intro zZ w_ hJ hr
    rw [if_neg δ];have e7:zZ.tmps[7]?=some (.pointer (some ⟨w4,0,none⟩)):=hr 7 δ;have k0:=hJ.1.box.c0;have k1:=hJ.1.box.c1;exact aU rfl γ
   ·intro zZ w_ hJ hr
    rw [if_neg δ];have e9:zZ.tmps[9]?=some (.int .i64 (k:Int)):=hr 9 δ;exact aU rfl γ
   ·intro zZ w_ hJ hr
    rw [if_neg δ];have e8:zZ.tmps[8]?=some (.bool true):=hr 8 δ;exact aU rfl γ
   ·intro zZ w_ hJ hr
    rw [if_neg δ];have e37:=Rg.t_ (hr 37 δ);exact aU rfl γ
   ·intro zZ w_ hJ hr
    rw [if_neg δ];have e7:zZ.tmps[7]?=some (.pointer (some ⟨w4,0,none⟩)):=hr 7 δ;have e38:=Rg.t_ (hr 38 δ);have k0:=hJ.1.box.c0;have k1:=hJ.1.box.c1;exact aU (bf (j:=3) (b:=true) rfl (Rg.Jd rfl e38)) γ
   ·intro zZ w_ hJ hr
    rw [if_neg δ];have e38:=Rg.t_ (hr 38 δ);have e39:=Rg.t_ (hr 39 δ);have ef:=Rg.ef zZ;exact bp (bf (j:=3) (b:=true) rfl (Rg.Jd rfl e38)) γ (PV.out _)
   ·intro zZ w_ hJ hr
    rw [if_neg δ];have e38:=Rg.t_ (hr 38 δ);have e40:=Rg.t_ (hr 40 δ);have ec:=Rg.ec zZ;exact aU rfl (by first | (go_simp;done))
   ·intro zZ w_ hJ hr
    rw [if_pos rfl];have e4:zZ.tmps[4]?=some (.pointer (some ⟨w.heap.size+1+1,0,none⟩)):=hr 4 δ;have e35:=Rg.t_ (hr 35 δ);obtain ⟨Nz,⟨u_,v_,hJ2⟩,hJ3⟩:=hJ;have e35:zZ.tmps[35]?=some (.agg #[bl,bh]):=Rg.t_ (hr 35 δ);have e4:zZ.tmps[4]?=some (.pointer (some ⟨w.heap.size+1+1,0,none⟩)):=hr 4 δ;have ⟨y0,y1,x0,x1,_⟩:=hJ2.box;refine ⟨rfl,?_⟩;unfold Oper.wp;go_simp
    exact ⟨⟨Nz.cw (show w4.heap.size≠w.heap.size+1+1 by omega) _ _,⟨_,_,aG.set2 hJ2 _ _⟩,fi hJ3 ω _ _⟩,fun _ _ hb=>(aG.set2 hJ2 _ _).keep hb⟩
   ·intro zZ w_ hJ hr
    rw [if_neg δ];have e36:=Rg.t_ (hr 36 δ);exact aU rfl γ
   ·intro zZ w_ hJ hr
    rw [if_neg δ];have e41:=Rg.t_ (hr 41 δ);exact aU rfl γ
   intro vals wz hJ2 hv;have NR:vals 8=.int .i64 (k:Int):=hv 8 δ;have J9:vals 9=.bool (aJ bl bh):=hv 9 δ;have hst:=hv 7 δ;simp only [bD,Rg.fill,Act.put,Nat.reduceAdd];simp only [NR,J9];have ⟨y0,y1,x0,x1,_⟩:=aG.box (cE hst);have B2:=hJ2.2.2;go_wp2;exact D_ (v:=.tuple #[.agg #[bl,bh],.int .i64 (k:Int),aJ bl bh]) results148 ⟨by rw [MZ.out,NY.out,hbk.out,Lb.out],B2⟩
  | true=>
  rw [hok,if_pos rfl] at hNs;have SE:=IU (hNs.symm.trans hN.out);rw [hok] at P1;have eL:=IU eL;have eH:=IU eH;have hk1:=IU (show ((k+1:Nat):Int)=(k:Int)+1 by omega);rw [hk1.out] at P1;have P1:=IU P1;generalize hbk:M.bL a b X E k=bl at *;generalize Lb:M.bH a b X E k=bh at *
  go_wp2_with (first
   | (go_at_call 155;with_reducible refine p_ (P1.out _) fun w5 hb5=>?_;replace ⟨C,R,T,B,Q⟩:=KU hb5 C R T B Q;replace Q:=Q.alloc (.cells #[hl,hh] 74);have S:=aG.new w5 #[hl,hh] 74;have b_:=bA w5 (.cells #[hl,hh] 74);replace ⟨C,R,T,B⟩:=Ip b_ C R T B;(replace ⟨f_,i_⟩:=C.b2);(replace ⟨B_,C_,y_,A_⟩:=R.Jy);(replace ⟨JF,JG,Ls,Lt⟩:=T.Jy);(replace ⟨Lq,Lr⟩:=S.b2))
   | (go_at_call 156;with_reducible refine p_ (PC.out _) fun w6 hb6=>?_;replace ⟨C,R,T,S,B,Q⟩:=RH hb6 C R T S B Q;(replace ⟨f_,i_⟩:=C.b2);(replace ⟨B_,C_,y_,A_⟩:=R.Jy);(replace ⟨JF,JG,Ls,Lt⟩:=T.Jy);(replace ⟨Lq,Lr⟩:=S.b2)))
  go_roundw
  case rel=>exact ⟨k+1,ω,ν,SE,by rw [eL.out,eH.out];exact aG.set2 T _ _,(C.other (show w.heap.size≠w4.heap.size by omega) _).other (show w.heap.size≠w4.heap.size by omega) _,(Q.other (show w.heap.size+1≠w4.heap.size by omega) _).other (show w.heap.size+1≠w4.heap.size by omega) _,(R.other (show w.heap.size+1+1≠w4.heap.size by omega) _).other (show w.heap.size+1+1≠w4.heap.size by omega) _,Ml B⟩
  case measure=>simp [intOf] <;> omega
 obtain rfl:k=5:=ω
 have MZ:=IU (show M.bN a b X E=5 by rw [←hN.out];rfl)
 have PV:=IU fun W=>ru (M.bL a b X E 5) (M.bH a b X E 5) W
 have NY:=IU (show M.Jm a b X E=aJ (M.bL a b X E 5) (M.bH a b X E 5) by unfold M.Jm;rw [MZ.out])
 obtain ⟨k,hk5⟩:∃ k:Nat,k=5:=⟨5,rfl⟩
 rw [←hk5] at MZ PV NY T ⊢;rw [←hk5] at JF JG
 have hlt5:¬ (k:Int)<5:=ω
 go_upto_region 8 with fail
 generalize hbk:M.bL a b X E k=bl at *;generalize Lb:M.bH a b X E k=bh at *;replace hbk:=IU hbk;replace Lb:=IU Lb;refine FT 7 [.is (.agg #[bl,bh]),.is (.int .i64 (k:Int)),.is true,.is true,.is (.agg #[bl,bh]),.is (aJ bl bh),.is (aJ bl bh),.at (fun _ W=>aG W (w.heap.size+1+1) 74 #[bl,bh]),.is (.int .i64 (k:Int)),.is (aJ bl bh)] (fun W=>aG W w4 74 #[bl,bh]/\(∃ u v,aG W (w.heap.size+1+1) 74 #[u,v])/\Below w w W) κ κ ?_ (fun j hj=>match j,hj with | 0,hj=>rfl | 1,hj=>rfl | 2,hj=>rfl | 3,hj=>rfl | 4,hj=>rfl | 5,hj=>rfl | 6,hj=>rfl | 7,hj=>absurd rfl hj | 8,hj=>rfl | 9,hj=>rfl | n+10,_=>rfl) ?_ ⟨?_,?_,?_,?_,?_,?_,?_,?_,?_,?_,trivial⟩ ?_
 ·exact fun W W_ h hb=>⟨h.1.keep hb,⟨_,_,h.2.1.choose_spec.choose_spec.keep hb⟩,h.2.2.trans (hb.mono h.2.2.size)⟩
 ·exact ⟨T,⟨_,_,R⟩,B⟩
 ·intro zZ w_ hJ hr
  rw [if_neg δ];have e7:zZ.tmps[7]?=some (.pointer (some ⟨w4,0,none⟩)):=hr 7 δ;have k0:=hJ.1.box.c0;have k1:=hJ.1.box.c1;exact aU rfl γ
 ·intro zZ w_ hJ hr
  rw [if_neg δ];have e9:zZ.tmps[9]?=some (.int .i64 (k:Int)):=hr 9 δ;exact aU rfl γ
 ·intro zZ w_ hJ hr
  rw [if_neg δ];have e8:zZ.tmps[8]?=some (.bool true):=hr 8 δ;exact aU rfl γ
 ·intro zZ w_ hJ hr
  rw [if_neg δ];have e37:=Rg.t_ (hr 37 δ);exact aU rfl γ
 ·intro zZ w_ hJ hr
  rw [if_neg δ];have e7:zZ.tmps[7]?=some (.pointer (some ⟨w4,0,none⟩)):=hr 7 δ;have e38:=Rg.t_ (hr 38 δ);have k0:=hJ.1.box.c0;have k1:=hJ.1.box.c1;exact aU (bf (j:=3) (b:=true) rfl (Rg.Jd rfl e38)) γ
 ·intro zZ w_ hJ hr
  rw [if_neg δ];have e38:=Rg.t_ (hr 38 δ);have e39:=Rg.t_ (hr 39 δ);have ef:=Rg.ef zZ;exact bp (bf (j:=3) (b:=true) rfl (Rg.Jd rfl e38)) γ (PV.out _)
 ·intro zZ w_ hJ hr
  rw [if_neg δ];have e38:=Rg.t_ (hr 38 δ);have e40:=Rg.t_ (hr 40 δ);have ec:=Rg.ec zZ;exact aU rfl (by first | (go_simp;done))
 ·intro zZ w_ hJ hr
  rw [if_pos rfl];have e4:zZ.tmps[4]?=some (.pointer (some ⟨w.heap.size+1+1,0,none⟩)):=hr 4 δ;have e35:=Rg.t_ (hr 35 δ);obtain ⟨Nz,⟨u_,v_,hJ2⟩,hJ3⟩:=hJ;have e35:zZ.tmps[35]?=some (.agg #[bl,bh]):=Rg.t_ (hr 35 δ);have e4:zZ.tmps[4]?=some (.pointer (some ⟨w.heap.size+1+1,0,none⟩)):=hr 4 δ;have ⟨y0,y1,x0,x1,_⟩:=hJ2.box;refine ⟨rfl,?_⟩;unfold Oper.wp;go_simp
  exact ⟨⟨Nz.cw (show w4.heap.size≠w.heap.size+1+1 by omega) _ _,⟨_,_,aG.set2 hJ2 _ _⟩,fi hJ3 ω _ _⟩,fun _ _ hb=>(aG.set2 hJ2 _ _).keep hb⟩
 ·intro zZ w_ hJ hr
  rw [if_neg δ];have e36:=Rg.t_ (hr 36 δ);exact aU rfl γ
 ·intro zZ w_ hJ hr
  rw [if_neg δ];have e41:=Rg.t_ (hr 41 δ);exact aU rfl γ
 intro vals wz hJ2 hv;have NR:vals 8=.int .i64 (k:Int):=hv 8 δ;have J9:vals 9=.bool (aJ bl bh):=hv 9 δ;have hst:=hv 7 δ;simp only [bD,Rg.fill,Act.put,Nat.reduceAdd];simp only [NR,J9];have ⟨y0,y1,x0,x1,_⟩:=aG.box (cE hst);have B2:=hJ2.2.2;go_wp2;exact D_ (v:=.tuple #[.agg #[bl,bh],.int .i64 (k:Int),aJ bl bh]) results148 ⟨by rw [MZ.out,NY.out,hbk.out,Lb.out],B2⟩
end
end Go.Proofs.YtkalaljcbmkbmaaGreat
