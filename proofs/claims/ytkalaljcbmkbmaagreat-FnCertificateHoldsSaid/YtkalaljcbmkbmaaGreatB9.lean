/-
  Joined texts: contracts and plain lemmas.
-/
import Derived.Test.YtkalaljcbmkbmaaGreatB1
import Derived.Test.YtkalaljcbmkbmaaGreatB8
import Derived.Test.YtkalaljcbmkbmaaGreatB5
import Derived.Test.YtkalaljcbmkbmaaGreatB7
set_option linter.unusedSimpArgs false
set_option linter.unusedVariables false
set_option maxRecDepth 100000
set_option maxHeartbeats 8000000
namespace Go.Proofs.YtkalaljcbmkbmaaGreat
section
open Go.RowKit
namespace M
def hL (C:Nat) (n:Nat) (o:Out):Int:=match o with
 | .val x z=>max 0 (3*(du (.val x z) - 1) - C)*4096 / p4 n
 | _=>0
def hH (C:Nat) (n:Nat) (o:Out):Int:=match o with
 | .val x z=>-(-((3*du (.val x z)+C)*4096) / p4 n)
 | _=>0
theorem Cm {a b x z:Int} {o:Out} (h:nx a b o=.val x z):Wh.sz x 1000/\Wh.sz z 1000:=by
 cases o with
 | inf=>cases h
 | bad=>cases h
 | val u v=>
 unfold nx at h
 dsimp only at h
 split at h
 ·cases h
 split at h
 ·rename_i hok
  injection h with h1 h2
  subst h1 h2;exact Wh.lW (Wh.k8 hok)
 cases h
theorem lR {a b X E x z:Int} (hX1:-10000<=X) (hX2:X<=10000) (hE1:0<=E) (hE2:E<=20) {n:Nat} (h:aZ a b X E n=.val x z):Wh.sz x 1000/\Wh.sz z 1000:=by
 unfold aZ at h
 split at h
 ·cases h
 cases n with
 | zero=>
  have Kv:0<=E*E/\E*E<=400:=⟨Int.mul_nonneg hE1 hE1,by have:=Int.mul_le_mul hE2 hE2 hE1 (by omega);omega⟩
  injection h with h1 h2
  subst h1 h2;exact ⟨Wh.aM (Wh.bP (by omega) (by omega)) (by omega),Wh.aM (Wh.bP (by omega) (by omega)) (by omega)⟩
 | succ n=>exact Cm h
theorem nM {x z:Int} (h:Wh.sz x 1000/\Wh.sz z 1000):0<=du (.val x z)/\du (.val x z)<=14000:=by
 have h1:=Wh.lh h.1;have h2:=Wh.lh h.2
 show 0<=max ((Wh.bl x.natAbs:Nat):Int) ((Wh.bl z.natAbs:Nat):Int)/\max ((Wh.bl x.natAbs:Nat):Int) ((Wh.bl z.natAbs:Nat):Int)<=14000
 omega
theorem wR {C n:Nat} {B:Int} (hC:C<=60) (hn:n<=5) (h1:0<=B) (h2:B<=14000):aJ (max 0 (3*(B - 1) - C)*4096 / p4 n) (-(-((3*B+C)*4096) / p4 n))=true:=by
 have hp:=tE n hn;generalize p4 n=d at *;have q1:=dX (a:=max 0 (3*(B - 1) - C)*4096) (b:=d) (k:=300000000) (by omega) (by omega) (by omega) (by omega);have q2:=dX (a:=-((3*B+C)*4096)) (b:=d) (k:=300000000) (by omega) (by omega) (by omega) (by omega);have q3:max 0 (3*(B - 1) - C)*4096 / d<=(3*B+C)*4096 / d:=Int.ediv_le_ediv (by omega) (by omega)
 have q4:(3*B+C)*4096 / d<=-(-((3*B+C)*4096) / d):=by
  have e1:=Int.mul_ediv_add_emod ((3*B+C)*4096) d;have e2:=Int.emod_nonneg ((3*B+C)*4096) (by omega:d≠0);have e3:=Int.mul_ediv_add_emod (-((3*B+C)*4096)) d;have e4:=Int.emod_nonneg (-((3*B+C)*4096)) (by omega:d≠0);generalize -((3*B+C)*4096) / d=v,(3*B+C)*4096 / d=u at *
  rcases Int.lt_or_le (-v) u with h | h
  ·have:d*(u+v)≥d*1:=Int.mul_le_mul_of_nonneg_left (by omega) (by omega)
   rw [Int.mul_add] at this;omega
  exact h
 unfold aJ;simp only [Bool.and_eq_true,decide_eq_true_eq];omega
theorem Cd {a b X E:Int} {C n:Nat} (hC:C<=60) (hn:n<=5) (hX1:-10000<=X) (hX2:X<=10000) (hE1:0<=E) (hE2:E<=20):aJ (hL C n (aZ a b X E n)) (hH C n (aZ a b X E n))=true:=by
 cases h:aZ a b X E n with
 | inf=>show aJ 0 0=true;decide
 | bad=>show aJ 0 0=true;decide
 | val x z=>
 have hb:=nM (lR hX1 hX2 hE1 hE2 h);exact wR hC hn hb.1 hb.2
end M
theorem pZ (a b d:Int) (w:World) (h1:-100000000000<=a) (h2:a<=100000000000) (h3:-100000000000<=b) (h4:b<=100000000000) (h5:1<=d) (h6:d<=100000) :
  Calls Tryz.prog 162 #[a,b,d] w fun e w'=>e=.returned (.tuple #[.agg #[M.pick (M.aJ (a*4096 / d) (-(-(b*4096) / d))) (M.pn (a*4096 / d)),M.pick (M.aJ (a*4096 / d) (-(-(b*4096) / d))) (M.pd (a*4096 / d)),M.pick (M.aJ (a*4096 / d) (-(-(b*4096) / d))) (M.pn (-(-(b*4096) / d))),M.pick (M.aJ (a*4096 / d) (-(-(b*4096) / d))) (M.pd (-(-(b*4096) / d)))],M.aJ (a*4096 / d) (-(-(b*4096) / d))])/\Below w.heap.size w w':=by
 have P1:=fun W=>lF (a*4096) d W (by omega) (by omega) (by omega) (by omega)
 have P2:=fun W=>wu (b*4096) d W (by omega) (by omega) (by omega) (by omega)
 have f1:=dX (a:=a*4096) (b:=d) (k:=1000000000000000) (by omega) (by omega) (by omega) (by omega);have f2:=dX (a:=-(b*4096)) (b:=d) (k:=1000000000000000) (by omega) (by omega) (by omega) (by omega)
 have PM:=fun W=>gW (a*4096 / d) (-(-(b*4096) / d)) W (by omega) (by omega) (by omega) (by omega)
 generalize -(-(b*4096) / d)=hi,a*4096 / d=lo,M.aJ (a*4096 / d) (-(-(b*4096) / d))=s,M.pick (M.aJ (a*4096 / d) (-(-(b*4096) / d))) (M.pd (-(-(b*4096) / d)))=p4,M.pick (M.aJ (a*4096 / d) (-(-(b*4096) / d))) (M.pn (-(-(b*4096) / d)))=p3,M.pick (M.aJ (a*4096 / d) (-(-(b*4096) / d))) (M.pd (a*4096 / d))=p2,M.pick (M.aJ (a*4096 / d) (-(-(b*4096) / d))) (M.pn (a*4096 / d))=p1 at *;replace P1:=DB P1;replace P2:=DB P2;replace PM:=DB PM;clear f1 f2;have R:=aG.new w #[(0:Int),(0:Int),(0:Int),(0:Int)] 78;have B:=(DE w.heap.size w).alloc (DF _) (.cells #[(0:Int),(0:Int),(0:Int),(0:Int)] 78);go_enter Tryz.func162,Tryz.ntmps162
 go_wp2_with (first
  | (go_at_call 143;(with_reducible refine (P1.out _).mono ?_);rintro e w4 ⟨rfl,rfl⟩)
  | (go_at_call 144;(with_reducible refine (P2.out _).mono ?_);rintro e w5 ⟨rfl,rfl⟩)
  | (go_at_call 142;(with_reducible refine (PM.out _).mono ?_);rintro e w6 ⟨rfl,hb6⟩;replace R:=R.keep hb6;replace B:=d_ B hb6;(replace ⟨p_,r_,y_,A_,s_,t_,C_,DG⟩:=R.Da)))
 exact bodyPost_ret (v:=.tuple #[.agg #[p1,p2,p3,p4],s]) (by simp [results,Tryz.results162,go_sem, *]) rfl (⟨rfl,D9 B⟩)
theorem lI (a b X Y E:Int) (n:Nat) (w:World) (hg:M.good a b=true) (hX1:-10000<=X) (hX2:X<=10000) (hE1:0<=E) (hE2:E<=20) (hn:n<=5) :
  Calls Tryz.prog 155 #[.agg #[a,b],.agg #[X,Y,E],.int .i64 (n:Int)] w fun e w'=>e=.returned (.tuple #[.agg #[M.hL (M.hC a b) n (M.aZ a b X E n),M.hH (M.hC a b) n (M.aZ a b X E n)],M.isOk (M.aZ a b X E n)])/\Below w.heap.size w w':=by
 have hin:=M.aj hg
 have PB:=fun W=>vN a b X Y E n W hg hX1 hX2 hE1 hE2 hn
 have PC:=DB fun W=>iT a b W hin
 have hC:=M.mQ hin
 have hsz:=fun x z (h:M.aZ a b X E n=.val x z)=>M.nM (M.lR hX1 hX2 hE1 hE2 h)
 have hp:=M.tE n hn
 have K9:M.p4 n=3*M.fb 4 n:=by
  match n,hn with
  | 0,_=>decide
  | 1,_=>decide
  | 2,_=>decide
  | 3,_=>decide
  | 4,_=>decide
  | 5,_=>decide
 have PP:=DB fun W=>qH 4 n W (by omega) (by omega) (by omega)
 generalize M.hC a b=k,M.fb 4 n=ip at *;clear hg hin;obtain ⟨wc,hw3,C,Q,R,B⟩:=cZ w #[a,b] 25 #[X,Y,E] 40 #[(0:Int),(0:Int)] 74;have ⟨q0,q1,q2⟩:=Q.aO;have e_:=C.box.c0;have f_:=C.box.c1
 cases ho:M.aZ a b X E n with
 | inf=>
  rw [ho] at PB;replace PB:=DB PB;clear hsz hp K9;go_enter Tryz.func155,Tryz.ntmps155
  go_wp2_with (go_at_call 159;(with_reducible refine (PB.out _).mono ?_);rintro e w4 ⟨rfl,hb4⟩;replace C:=C.keep hb4;replace R:=R.keep hb4;replace B:=d_ B hb4;(replace ⟨e_,f_⟩:=C.b2);(replace ⟨p_,r_,s_,t_⟩:=R.EK))
  exact bodyPost_ret (v:=.tuple #[.agg #[(0:Int),(0:Int)],true]) (by simp [results,Tryz.results155,go_sem, *]) rfl (⟨rfl,Gh B⟩)
 | bad=>
  rw [ho] at PB;replace PB:=DB PB;clear hsz hp K9;go_enter Tryz.func155,Tryz.ntmps155
  go_wp2_with (go_at_call 159;(with_reducible refine (PB.out _).mono ?_);rintro e w4 ⟨rfl,hb4⟩;replace C:=C.keep hb4;replace R:=R.keep hb4;replace B:=d_ B hb4;(replace ⟨e_,f_⟩:=C.b2);(replace ⟨p_,r_,s_,t_⟩:=R.EK))
  exact bodyPost_ret (v:=.tuple #[.agg #[(0:Int),(0:Int)],false]) (by simp [results,Tryz.results155,go_sem, *]) rfl (⟨rfl,Gh B⟩)
 | val x z=>
 rw [ho] at PB;have hb:=hsz x z ho;have e1:M.hL k n (.val x z)=max 0 (3*(M.du (.val x z) - 1) - k)*4096 / M.p4 n:=rfl;have e2:M.hH k n (.val x z)=-(-((3*M.du (.val x z)+k)*4096) / M.p4 n):=rfl;rw [e1,e2];clear e1 e2 hsz ho;rw [show M.isInf (.val x z)=false from rfl,show M.isOk (.val x z)=true from rfl] at PB;rw [show M.isOk (.val x z)=true from rfl];generalize M.du (.val x z)=bt at *;rw [K9];rw [K9] at hp
 have hm:max 0 (3*(bt - 1) - (k:Int))=max (3*(bt - 1) - (k:Int)) 0:=by omega
 rw [hm]
 have F1:=fun W=>fZ (max (3*(bt - 1) - (k:Int)) 0*4096) (3*ip) W (by omega) (by omega) (by omega) (by omega)
 have F2:=fun W=>fZ (-((3*bt+(k:Int))*4096)) (3*ip) W (by omega) (by omega) (by omega) (by omega)
 have F2:=fun x W (h:x=-((3*bt+(k:Int))*4096))=>(by subst h;exact F2 W:Calls Tryz.prog 130 #[x,(3*ip:Int)] W fun e w'=>e=.returned (.int .i64 (-((3*bt+(k:Int))*4096) / (3*ip)))/\W=w')
 have F1:=fun x W (h:x=max (3*(bt - 1) - (k:Int)) 0*4096)=>(by subst h;exact F1 W:Calls Tryz.prog 130 #[x,(3*ip:Int)] W fun e w'=>e=.returned (.int .i64 (max (3*(bt - 1) - (k:Int)) 0*4096 / (3*ip)))/\W=w')
 have g2:=dX (a:=-((3*bt+(k:Int))*4096)) (b:=3*ip) (k:=1000000000000000) (by omega) (by omega) (by omega) (by omega);generalize max (3*(bt - 1) - (k:Int)) 0*4096 / (3*ip)=lo at *;generalize -((3*bt+(k:Int))*4096) / (3*ip)=hi at *;obtain ⟨g2,g3⟩:=g2;obtain ⟨hb1,hb2⟩:=hb;obtain ⟨hp1,hp2⟩:=hp
 have hk2:(k:Int)<=60:=by omega
 clear hm K9 hC;replace F1:=DB F1;replace F2:=DB F2;replace PB:=DB PB;go_enter Tryz.func155,Tryz.ntmps155
 go_wp2_with (first
  | (go_at_call 159;(with_reducible refine (PB.out _).mono ?_);rintro e w4 ⟨rfl,hb4⟩;replace C:=C.keep hb4;replace R:=R.keep hb4;replace B:=d_ B hb4;(replace ⟨e_,f_⟩:=C.b2);(replace ⟨p_,r_,s_,t_⟩:=R.EK))
  | (go_at_call 160;(with_reducible refine (PC.out _).mono ?_);rintro e w5 ⟨rfl,hb5⟩;replace C:=C.keep hb5;replace R:=R.keep hb5;replace B:=d_ B hb5;(replace ⟨e_,f_⟩:=C.b2);(replace ⟨p_,r_,s_,t_⟩:=R.EK))
  | (go_at_call 30;(with_reducible refine (PP.out _).mono ?_);rintro e w6 ⟨rfl,rfl⟩)
  | (go_at_call 130;first | ((with_reducible refine (F1.out _ _ (by omega)).mono ?_);rintro e w7 ⟨rfl,rfl⟩) | ((with_reducible refine (F2.out _ _ (by omega)).mono ?_);rintro e w8 ⟨rfl,rfl⟩)))
 exact bodyPost_ret (v:=.tuple #[.agg #[lo,(-hi:Int)],true]) (by simp [results,Tryz.results155,go_sem, *]) rfl (⟨rfl,Gh B⟩)
theorem kr (a b X Y E:Int) (n:Nat) (w:World) (hg:M.good a b=true) (hX1:-10000<=X) (hX2:X<=10000) (hE1:0<=E) (hE2:E<=20) (hn:n<=5) :
  Calls Tryz.prog 157 #[.agg #[a,b],.agg #[X,Y,E],.int .i64 (n:Int)] w fun e w'=>e=.returned (.tuple #[.agg #[M.pick (M.isOk (M.aZ a b X E n)) (M.pn (M.hL (M.hC a b) n (M.aZ a b X E n))),M.pick (M.isOk (M.aZ a b X E n)) (M.pd (M.hL (M.hC a b) n (M.aZ a b X E n))),M.pick (M.isOk (M.aZ a b X E n)) (M.pn (M.hH (M.hC a b) n (M.aZ a b X E n))),M.pick (M.isOk (M.aZ a b X E n)) (M.pd (M.hH (M.hC a b) n (M.aZ a b X E n)))],M.isOk (M.aZ a b X E n)])/\Below w.heap.size w w':=by
 have hin:=M.aj hg
 have PB:=fun W=>rB a b X Y E n W hg hX1 hX2 hE1 hE2 hn
 have PC:=DB fun W=>ny a b W hin
 have hC:=M.mQ hin;have hp:=M.tE n hn
 have PP:=DB fun W=>tn n W hn
 have PX:=DB fun x y W=>d6 x y W
 have hsp:=fun B h1 h2=>M.wR (B:=B) hC hn h1 h2
 generalize M.hC a b=k at *;clear hg hin;obtain ⟨wc,hw3,C,Q,R,B⟩:=cZ w #[a,b] 25 #[X,Y,E] 40 #[(0:Int),(0:Int),(0:Int),(0:Int)] 78;have ⟨q0,q1,q2⟩:=Q.aO;have e_:=C.box.c0;have f_:=C.box.c1
 cases ho:M.aZ a b X E n with
 | inf=>
  rw [ho] at PB
  have PM:=fun W=>pZ 0 0 1 W (by omega) (by omega) (by omega) (by omega) (by omega) (by omega)
  rw [show (0:Int)*4096 / 1=0 by decide,show -(-((0:Int)*4096) / 1)=0 by decide,show M.aJ 0 0=true by decide] at PM;rw [show M.hL k n .inf=0 from rfl,show M.hH k n .inf=0 from rfl,show M.isOk .inf=true from rfl];generalize M.pick true (M.pd 0)=p2,M.pick true (M.pn 0)=p1 at *;replace PB:=DB PB;replace PM:=DB PM;clear hsp hp;go_enter Tryz.func157,Tryz.ntmps157
  go_wp2_with (first
   | (go_at_call 161;(with_reducible refine (PB.out _).mono ?_);rintro e w4 ⟨v4,en,rfl,DS,hb4⟩;obtain ⟨rfl,A4,l4,c4,rfl⟩:=DS;replace C:=C.keep hb4;replace R:=R.keep hb4;replace B:=d_ B hb4;(replace ⟨e_,f_⟩:=C.b2);(replace ⟨p_,r_,y_,A_,s_,t_,C_,DG⟩:=R.Da))
   | (go_at_call 162;(with_reducible refine (PM.out _).mono ?_);rintro e w5 ⟨rfl,hb5⟩;replace C:=C.keep hb5;replace R:=R.keep hb5;replace B:=d_ B hb5;(replace ⟨e_,f_⟩:=C.b2);(replace ⟨p_,r_,y_,A_,s_,t_,C_,DG⟩:=R.Da)))
  exact bodyPost_ret (v:=.tuple #[.agg #[p1,p2,p1,p2],true]) (by simp [results,Tryz.results157,go_sem, *]) rfl (⟨rfl,D9 B⟩)
 | bad=>
  rw [ho] at PB;rw [show M.isOk .bad=false from rfl];replace PB:=DB PB;clear hsp hp;go_enter Tryz.func157,Tryz.ntmps157
  go_wp2_with (go_at_call 161;(with_reducible refine (PB.out _).mono ?_);rintro e w4 ⟨v4,en,rfl,DS,hb4⟩;obtain ⟨rfl,A4,l4,c4,rfl,hl4⟩:=DS;(have hl5:(l4:Int)<=n:=by omega);replace C:=C.keep hb4;replace R:=R.keep hb4;replace B:=d_ B hb4;(replace ⟨e_,f_⟩:=C.b2);(replace ⟨p_,r_,y_,A_,s_,t_,C_,DG⟩:=R.Da))
  exact bodyPost_ret (v:=.tuple #[.agg #[(0:Int),(0:Int),(0:Int),(0:Int)],false]) (by simp [results,Tryz.results157,go_sem, *]) rfl (⟨rfl,D9 B⟩)
 | val x z=>
 rw [ho] at PB;have hb:=M.nM (M.lR hX1 hX2 hE1 hE2 ho);have e1:M.hL k n (.val x z)=max 0 (3*(M.du (.val x z) - 1) - k)*4096 / M.p4 n:=rfl;have e2:M.hH k n (.val x z)=-(-((3*M.du (.val x z)+k)*4096) / M.p4 n):=rfl;rw [e1,e2,show M.isOk (.val x z)=true from rfl];have hs:=hsp _ hb.1 hb.2;clear e1 e2 ho hsp
 have PD:=DB fun (s r:Bool) v v' W i j (h1:aF W i v (Wh.a_ x.natAbs)) (h2:aF W j v' (Wh.a_ z.natAbs)) (hx:Wh.sz x 1000) (hz:Wh.sz z 1000) (hs:s=decide (x<0)) (hr:r=decide (z<0))=>(hs ▸ hr ▸ yS x z v v' W i j h1 h2 (Wh.aU.2 (Wh.aM hx (by omega))) (Wh.aU.2 (Wh.aM hz (by omega))) (Nat.le_trans (Wh.lh hx) (by omega)) (Nat.le_trans (Wh.lh hz) (by omega)):Calls Tryz.prog 163 #[.agg #[s,v,r,v']] W fun e w'=>e=.returned (.int .i64 (M.du (.val x z)))/\Below W.heap.size W w')
 generalize M.du (.val x z)=bt at *
 have PM:=fun W=>pZ (max 0 (3*(bt - 1) - (k:Int))) (3*bt+(k:Int)) (M.p4 n) W (by omega) (by omega) (by omega) (by omega) (by omega) (by omega)
 rw [hs] at PM;generalize M.pick true (M.pn (max 0 (3*(bt - 1) - (k:Int))*4096 / M.p4 n))=p1 at *;generalize M.pick true (M.pd (max 0 (3*(bt - 1) - (k:Int))*4096 / M.p4 n))=p2 at *;generalize M.pick true (M.pn (-(-((3*bt+(k:Int))*4096) / M.p4 n)))=p3 at *;generalize M.pick true (M.pd (-(-((3*bt+(k:Int))*4096) / M.p4 n)))=p4 at *;obtain ⟨hb1,hb2⟩:=hb
 have hk2:(k:Int)<=60:=by omega
 have PM:=DB fun x W (h:x=max 0 (3*(bt - 1) - (k:Int)))=>(by subst h;exact PM W:Calls Tryz.prog 162 #[x,(3*bt+(k:Int):Int),M.p4 n] W fun e w'=>e=.returned (.tuple #[.agg #[p1,p2,p3,p4],true])/\Below W.heap.size W w')
 clear hs hC hp;generalize M.p4 n=pp at *;replace PB:=DB PB;go_enter Tryz.func157,Tryz.ntmps157
 go_upto_region 6 with (go_at_call 161;(with_reducible refine (PB.out _).mono ?_);rintro e w4 ⟨v4,en,rfl,DS,hb4⟩;obtain ⟨rfl,zx,zz,g,cap,s,av,lv,cv,r,bv,mv,dv,rfl,JD,JE,JF,JG,hss,hrr,ox,oz⟩:=DS;have ox:=DB ox;have oz:=DB oz;have zx:=DB zx;have zz:=DB zz;replace C:=C.keep hb4;replace R:=R.keep hb4;replace B:=d_ B hb4;(replace ⟨e_,f_⟩:=C.b2);(replace ⟨p_,r_,y_,A_,s_,t_,C_,DG⟩:=R.Da))
 refine Rg.bg 9 [.is (.slice (some ⟨g,0,none⟩) (n+1) cap),.is (.int .i64 (n:Int)),.is (.pointer (some ⟨g,n*4,none⟩)),.is (.agg #[s,.slice av lv cv,r,.slice bv mv dv]),.is bt,.is (.agg #[a,b]),.is (.int .i64 (k:Int)),.is bt,.is (.int .i64 (k:Int))] (by kernel_rfl) (by kernel_rfl) (by kernel_rfl) ⟨?_,?_,?_,?_,?_,?_,?_,?_,?_,trivial⟩ ?_
 ·refine Rg.b1 ?_;intro zZ w_ hB e
  go_simp
 ·refine Rg.b1 ?_;intro zZ w_ hB e
  go_simp
 ·refine Rg.b2 ?_;intro zZ w_ hB e f
  have FA:(n:Int)<((n+1:Nat):Int):=by omega
  have hlt2_:n<n+1:=by omega
  first | (go_simp;done) | (go_simp;omega)
 ·refine Rg.b1 ?_;intro zZ w_ hB e
  have k0:=aE hB JD;have k1:=aE hB JE;have k2:=aE hB JF;have k3:=aE hB JG
  first | (go_simp;done)
 ·refine Rg.o1 ?_;intro zZ w_ hB e
  have ef:=Rg.ef zZ;exact Rg.bV rfl (by go_simp) (PD.out s r _ _ _ _ _ (aF.below ox.out hB) (aF.below oz.out hB) zx.out zz.out hss.out hrr.out)
 ·refine Rg.b1 ?_;intro zZ w_ hB e
  have k0:=aE hB C.box.c0;have k1:=aE hB C.box.c1;go_simp
 ·refine Rg.o1 ?_;intro zZ w_ hB e
  have ef:=Rg.ef zZ;exact Rg.bV rfl (by go_simp) (PC.out _)
 ·refine Rg.b1 ?_;intro zZ w_ hB e
  go_simp
 ·refine Rg.b1 ?_;intro zZ w_ hB e
  go_simp
 intro vals wz hB hv hne;have E0:vals 7=.int .i64 bt:=hv 7 (by decide);have GP:vals 8=.int .i64 (k:Int):=hv 8 (by decide);simp only [Rg.bF,Rg.fill,Act.put,Nat.reduceAdd];clear hv;simp only [E0,GP];clear E0 GP;have C2:=C.keep hB;have R2:=R.keep hB;have B2:=d_ B hB;clear C R B e_ f_ p_ r_ y_ A_ s_ t_ C_ DG;unfold Rg.aX;have ⟨y0,y1,y2,y3,x0,x1,x2,x3,_⟩:=R2.aL
 go_wp2_with (first
  | (go_at_call 94;(with_reducible refine (PX.out _ _ _).mono ?_);rintro e w5 ⟨rfl,rfl⟩)
  | (go_at_call 165;(with_reducible refine (PP.out _).mono ?_);rintro e w6 ⟨rfl,rfl⟩)
  | (go_at_call 162;(with_reducible refine (PM.out _ _ (by omega)).mono ?_);rintro e w7 ⟨rfl,DL⟩;replace R2:=R2.keep DL;replace B2:=d_ B2 DL;(replace ⟨R2_c0,R2_c1,R2_c2,R2_c3,R2_f0,R2_f1,R2_f2,R2_f3⟩:=R2.Da)))
 exact bodyPost_ret (v:=.tuple #[.agg #[p1,p2,p3,p4],true]) (by simp [results,Tryz.results157,go_sem, *]) rfl (⟨rfl,D9 B2⟩)
end
section
open Go Go.RowKit
namespace Rg
variable {P:Program} {Q:Exit->Act->World->Prop}
def Val.pure:Val->Bool
 | .is _=>true
 | .num _=>true
 | .such _=>true
 | _=>false
theorem Val.dm {V:Val} (h:V.pure=true) {u:Value} {w w':World} (hu:V.ok u w):V.ok u w':=by
 cases V with
 | is _=>exact hu
 | num _=>exact hu
 | such _=>exact hu
 | _=>cases h
def uw (P:Program) (ops:Array Oper) (Q:Exit->Act->World->Prop) (a0:Act) (T:List Val) (J:World->Prop) (k0:Nat):List Oper->Nat->Prop
 | [],_=>True
 | o
   :: os,k=>(∀ (a:Act) (w:World),J w->(∀ t ∈ o.looksAt ops,nF ops a0 T o a w t)->
   if k=k0 then Region.wanted o (yielded ops a.tmps)=true/\o.wp P a w (fun a' w'=>(∃ v,a'=a.put o.dst v)/\J w'/\∀ v,(Ds T k).ok v w') Q else Does P ops Q (Ds T k) o a w)/\uw P ops Q a0 T J k0 os (k+1)
theorem xh {ops:Array Oper} {a0:Act} {T:List Val} {J:World->Prop} {k0:Nat} (hJ:∀ w w',J w->Below w.heap.size w w'->J w') (hp:∀ j,j≠k0->(Ds T j).pure=true):∀ (os:List Oper) (k:Nat),uw P ops Q a0 T J k0 os k->qx P Q .any ops J (fun i v w=>(Ds T i).ok v w) a0 os k
 | [],_,_=>trivial
 | o :: os,k,h=>by
  refine ⟨fun a w vals hS hv hr=>?_,xh hJ hp os (k+1) h.2⟩
  have h1:=h.1 a w hS (fun t ht=>by
   have:=hr t ht;unfold rd at this;unfold nF
   split
   ·rename_i e he
    rw [he] at this;have h2:=List.find?_some he;rw [Bool.and_eq_true] at h2;exact ⟨_,this,hv e (Array.mem_toList_iff.1 (List.mem_of_find?_eq_some he)) h2.1⟩
   rename_i he
   rw [he] at this
   exact this)
  unfold Au
  split at h1
  ·rename_i hk
   rw [if_pos h1.1];refine Oper.wp_mono ?_ h1.2;rintro a' w' ⟨⟨v,e⟩,h2,h3⟩;refine ⟨v,e,h3 v,h2,fun j u hu=>?_⟩
   by_cases hj:j=k0
   ·subst hj
    subst hk;exact h3 u
   exact Val.dm (hp j hj) hu
  unfold Does at h1
  split
  ·rename_i hw
   rw [if_pos hw] at h1;refine Oper.wp_mono ?_ h1;rintro a' w' ⟨v,e1,e2,e3⟩;exact ⟨v,e1,e2,hJ _ _ hS e3,fun j u hu=>Val.keep e3 _ _ hu⟩
  rename_i hw
  rw [if_neg hw] at h1;exact h1
theorem Aj {id:Nat} {ops:Array Oper} {a0:Act} {w:World} (k0:Nat) (T:List Val) (J:World->Prop) (hm:P.follows .mixedOrders=true) (hok:fC .any ops a0.tmps.size=true)
  (hJ:∀ w w',J w->Below w.heap.size w w'->J w') (hp:∀ j,j≠k0->(Ds T j).pure=true) (h0:J w)
  (hR:uw P ops Q a0 T J k0 ops.toList 0)
  (hF:∀ (vals:Nat->Value) (w':World),J w'->(∀ i,i<ops.size->(Ds T i).ok (vals i) w')->Q .normal (fill (fun _=>true) vals ops.toList 0 a0) w'):(Code.region id ops true).wp P Q a0 w:=
 region J (fun i v w'=>(Ds T i).ok v w') hm hok (hJ _ _ h0 ((DE _ w).drew)) (xh hJ hp _ _ hR) hF
end Rg
end
section
open Go.RowKit
namespace M
def bL (a b X E:Int):Nat->Int
 | 0=>hL (hC a b) 0 (aZ a b X E 0)
 | k+1=>max (bL a b X E k) (hL (hC a b) (k+1) (aZ a b X E (k+1)))
def bH (a b X E:Int):Nat->Int
 | 0=>hH (hC a b) 0 (aZ a b X E 0)
 | k+1=>min (bH a b X E k) (hH (hC a b) (k+1) (aZ a b X E (k+1)))
def GJ (a b X E:Int):Nat->Nat->Nat
 | 0,k=>k
 | f+1,k=>if isOk (aZ a b X E (k+1))=true then GJ a b X E f (k+1) else k
def bN (a b X E:Int):Nat:=GJ a b X E 5 0
def EA (a b X E:Int):Bool:=aJ (bL a b X E (bN a b X E)) (bH a b X E (bN a b X E))
theorem vI {a b X E:Int}:∀ f k:Nat,k<=GJ a b X E f k
 | 0,_=>DF _
 | f+1,k=>by
  unfold GJ
  split
  ·exact Nat.le_of_succ_le (vI f (k+1))
  exact DF _
theorem vJ {a b X E:Int}:∀ f k:Nat,GJ a b X E f k<=k+f
 | 0,_=>DF _
 | f+1,k=>by
  unfold GJ
  split
  ·have:=vJ (a:=a) (b:=b) (X:=X) (E:=E) f (k+1);omega
  omega
theorem CQ {a b X E:Int}:bN a b X E<=5:=vJ 5 0
theorem AX {a b X E:Int}:isOk (aZ a b X E 0)=true:=by
 unfold aZ
 split <;> rfl
theorem wQ {a b X E:Int} {n:Nat} (hin:M.aw a b=true) (hn:n<=5) (hX1:-10000<=X) (hX2:X<=10000) (hE1:0<=E) (hE2:E<=20):-409600000<=hL (hC a b) n (aZ a b X E n)/\hL (hC a b) n (aZ a b X E n)<=409600000/\-409600000<=hH (hC a b) n (aZ a b X E n)/\hH (hC a b) n (aZ a b X E n)<=409600000:=by
 have:=bj (Cd (a:=a) (b:=b) (C:=hC a b) (mQ hin) hn hX1 hX2 hE1 hE2);omega
theorem A0 {a b X E:Int} (hin:M.aw a b=true) (hX1:-10000<=X) (hX2:X<=10000) (hE1:0<=E) (hE2:E<=20):∀ k:Nat,k<=5->-409600000<=bL a b X E k/\bL a b X E k<=409600000/\-409600000<=bH a b X E k/\bH a b X E k<=409600000
 | 0,h=>wQ hin h hX1 hX2 hE1 hE2
 | k+1,h=>by
  have h1:=A0 hin hX1 hX2 hE1 hE2 k (by omega);have h2:=wQ (n:=k+1) hin h hX1 hX2 hE1 hE2;unfold bL bH;omega
theorem qz {a b X E:Int} {k:Nat}:∀ n:Nat,k<=n->bL a b X E k<=bL a b X E n/\bH a b X E n<=bH a b X E k
 | 0,h=>by
        obtain rfl:k=0:=by omega
        exact ⟨Int.le_refl _,Int.le_refl _⟩
 | n+1,h=>by
  by_cases e:k=n+1
  ·subst e;exact ⟨Int.le_refl _,Int.le_refl _⟩
  have:=qz (a:=a) (b:=b) (X:=X) (E:=E) (k:=k) n (by omega);have e1:bL a b X E (n+1)=max (bL a b X E n) (hL (hC a b) (n+1) (aZ a b X E (n+1))):=rfl;have e2:bH a b X E (n+1)=min (bH a b X E n) (hH (hC a b) (n+1) (aZ a b X E (n+1))):=rfl;omega
theorem CS {a b X E:Int} (hin:M.aw a b=true) (hX1:-10000<=X) (hX2:X<=10000) (hE1:0<=E) (hE2:E<=20) {k:Nat} (hk:k<=bN a b X E) (h:aJ (bL a b X E k) (bH a b X E k)=false):EA a b X E=false:=by
 cases hb:EA a b X E with
 | false=>rfl
 | true=>
 have hN:=CQ (a:=a) (b:=b) (X:=X) (E:=E);have h1:=bj hb;have h2:=qz (a:=a) (b:=b) (X:=X) (E:=E) _ hk;have h3:=A0 hin hX1 hX2 hE1 hE2 k (by omega)
 exfalso
 have:aJ (bL a b X E k) (bH a b X E k)=true:=by
  unfold aJ;simp only [Bool.and_eq_true,decide_eq_true_eq];omega
 rw [this] at h;cases h
end M
theorem nK (a b X Y E:Int) (w:World) (hg:M.good a b=true) (hX1:-10000<=X) (hX2:X<=10000) (hE1:0<=E) (hE2:E<=20) :
  Calls Tryz.prog 148 #[.agg #[a,b],.agg #[X,Y,E]] w fun e w'=>e=.returned (.tuple #[.agg #[M.bL a b X E (M.bN a b X E),M.bH a b X E (M.bN a b X E)],.int .i64 ((M.bN a b X E:Nat):Int),M.EA a b X E])/\Below w.heap.size w w':=by
 have P0:=fun W=>lI a b X Y E 0 W hg hX1 hX2 hE1 hE2 (by omega)
 rw [M.AX,show ((0:Nat):Int)=0 from rfl] at P0
 have PK:=DB fun (k:Nat) W (hk:k<=5)=>lI a b X Y E k W hg hX1 hX2 hE1 hE2 hk
 have P0:=DB P0;have hL0:=DB (show M.hL (M.hC a b) 0 (M.aZ a b X E 0)=M.bL a b X E 0 from rfl);have hH0:=DB (show M.hH (M.hC a b) 0 (M.aZ a b X E 0)=M.bH a b X E 0 from rfl);have hin:=M.aj hg
 have hbd:=DB fun k hk=>M.wQ (a:=a) (b:=b) (X:=X) (E:=E) (n:=k) hin hk hX1 hX2 hE1 hE2
 have hbb:=DB fun k hk=>M.A0 (a:=a) (b:=b) (X:=X) (E:=E) hin hX1 hX2 hE1 hE2 k hk
 clear hg hin;obtain ⟨wc,hw3,C,Q,R,B⟩:=cZ w #[a,b] 25 #[X,Y,E] 40 #[(0:Int),(0:Int)] 74;have ⟨q0,q1,q2⟩:=Q.aO;have e_:=C.box.c0;have f_:=C.box.c1;generalize hu0:M.hL (M.hC a b) 0 (M.aZ a b X E 0)=u0 at *;generalize hv0:M.hH (M.hC a b) 0 (M.aZ a b X E 0)=v0 at *;clear hu0 hv0;go_enter Tryz.func148,Tryz.ntmps148
 go_wp2_with (go_at_call 155;(with_reducible refine (P0.out _).mono ?_);rintro e w4 ⟨rfl,hb4⟩;replace C:=C.keep hb4;replace R:=R.keep hb4;replace B:=d_ B hb4;replace Q:=Q.keep hb4;have KA:=DB R.lt;replace Q:=Q.alloc (.cells #[u0,v0] 74);have T:=aG.new w4 #[u0,v0] 74;have b_:=bA w4 (.cells #[u0,v0] 74);replace C:=C.keep b_;replace R:=R.keep b_;replace B:=d_ B b_;clear b_;(replace ⟨e_,f_⟩:=C.b2);(replace ⟨p_,r_,s_,t_⟩:=R.EK);(replace ⟨Dn,Do⟩:=T.b2))
 go_loopw [9] (fun vi wr=>∃ k:Nat,k<=5/\vi=.int .i64 k/\Hid (M.GJ a b X E (5 - k) k=M.bN a b X E)/\aG wr w4.heap.size 74 #[M.bL a b X E k,M.bH a b X E k]/\aG wr w.heap.size 25 #[a,b]/\aG wr (w.heap.size+1) 40 #[X,Y,E]/\aG wr (w.heap.size+1+1) 74 #[(0:Int),(0:Int)]/\Below w.heap.size w wr) (fun vi _=>5 - (intOf vi).toNat)
 case atStart=>exact ⟨0,by omega,rfl,DB rfl,by rw [←hL0.out,←hH0.out];exact T,C,Q,R,B⟩
 case round=>
 clear C Q R B T P0 hL0 hH0 e_ f_ p_ r_ s_ t_ Dn Do q0 q1 q2;have hR9:=KA.out;obtain ⟨k,hk,rfl,hN,T,C,Q,R,B⟩:=hrel;have Dn:=T.box.c0;have Do:=T.box.c1;have Fz:=T.box.f0;have F0:=T.box.f1;have e_:=C.box.c0;have f_:=C.box.c1;have p_:=R.box.c0;have r_:=R.box.c1;have s_:=R.box.f0;have t_:=R.box.f1;have ⟨q0,q1,q2⟩:=Q.aO
 by_cases hlt:k<5
 ·have P1:=fun W=>PK.out (k+1) W (by omega)
  have hNs:M.GJ a b X E (5 - k) k=if M.isOk (M.aZ a b X E (k+1))=true then M.GJ a b X E (5 - (k+1)) (k+1) else k:=by
   rw [show 5 - k=(5 - (k+1))+1 by omega];rfl
  have eL:M.bL a b X E (k+1)=max (M.bL a b X E k) (M.hL (M.hC a b) (k+1) (M.aZ a b X E (k+1))):=rfl;have eH:M.bH a b X E (k+1)=min (M.bH a b X E k) (M.hH (M.hC a b) (k+1) (M.aZ a b X E (k+1))):=rfl;generalize M.hH (M.hC a b) (k+1) (M.aZ a b X E (k+1))=hh,M.hL (M.hC a b) (k+1) (M.aZ a b X E (k+1))=hl at *
  have PC:=DB fun W=>vX (M.bL a b X E k) (M.bH a b X E k) hl hh W
  cases hok:M.isOk (M.aZ a b X E (k+1)) with
  | false=>
   rw [hok,if_neg (by decide)] at hNs;have GU:=DB (show M.bN a b X E=k by rw [←hN.out,hNs]);rw [hok] at P1
   have PV:=DB fun W=>pK (M.bL a b X E k) (M.bH a b X E k) W
   have He:=DB (show M.EA a b X E=M.aJ (M.bL a b X E k) (M.bH a b X E k) by unfold M.EA;rw [GU.out]);clear hNs eL eH hok hN PC;have P1:=DB P1;have hk1:=DB (show ((k+1:Nat):Int)=(k:Int)+1 by omega);have P1:=P1.out;rw [hk1.out] at P1;have P1:=DB P1
   go_upto_region 8 with (go_at_call 155;(with_reducible refine (P1.out _).mono ?_);rintro e w5 ⟨rfl,hb5⟩;replace C:=C.keep hb5;replace R:=R.keep hb5;replace T:=T.keep hb5;replace B:=d_ B hb5;replace Q:=Q.keep hb5;replace Q:=Q.alloc (.cells #[hl,hh] 74);have S:=aG.new w5 #[hl,hh] 74;have b_:=bA w5 (.cells #[hl,hh] 74);replace C:=C.keep b_;replace R:=R.keep b_;replace T:=T.keep b_;replace B:=d_ B b_;clear b_;(replace ⟨e_,f_⟩:=C.b2);(replace ⟨p_,r_,s_,t_⟩:=R.EK);(replace ⟨Dn,Do⟩:=T.b2);(replace ⟨Fx,Fy⟩:=S.b2))
   generalize w5.alloc (.cells #[hl,hh] 74)=wd at *;generalize hbk:M.bL a b X E k=bl at *;generalize FW:M.bH a b X E k=bh at *;replace hbk:=DB hbk;replace FW:=DB FW;refine Rg.Aj 7 [.is (.agg #[bl,bh]),.is (.int .i64 (k:Int)),.is true,.is true,.is (.agg #[bl,bh]),.is (M.aJ bl bh),.is (M.aJ bl bh),.at (fun _ W=>aG W (w.heap.size+1+1) 74 #[bl,bh]),.is (.int .i64 (k:Int)),.is (M.aJ bl bh)] (fun W=>aG W w4.heap.size 74 #[bl,bh]/\(∃ u v,aG W (w.heap.size+1+1) 74 #[u,v])/\Below w.heap.size w W) (by kernel_rfl) (by kernel_rfl) ?_ (fun j hj=>match j,hj with | 0,hj=>rfl | 1,hj=>rfl | 2,hj=>rfl | 3,hj=>rfl | 4,hj=>rfl | 5,hj=>rfl | 6,hj=>rfl | 7,hj=>absurd rfl hj | 8,hj=>rfl | 9,hj=>rfl | n+10,_=>rfl) ?_ ⟨?_,?_,?_,?_,?_,?_,?_,?_,?_,?_,trivial⟩ ?_
   ·exact fun W W_ h hb=>⟨h.1.keep hb,⟨_,_,h.2.1.choose_spec.choose_spec.keep hb⟩,h.2.2.trans (hb.mono h.2.2.size)⟩
   ·exact ⟨T,⟨_,_,R⟩,B⟩
   ·intro zZ w_ hJ hr
    rw [if_neg (by decide)];have e7:zZ.tmps[7]?=some (.pointer (some ⟨w4.heap.size,0,none⟩)):=hr 7 (by decide);have k0:=hJ.1.box.c0;have k1:=hJ.1.box.c1;exact Rg.aW rfl (by go_simp)
   ·intro zZ w_ hJ hr
    rw [if_neg (by decide)];have e9:zZ.tmps[9]?=some (.int .i64 (k:Int)):=hr 9 (by decide);exact Rg.aW rfl (by go_simp)
   ·intro zZ w_ hJ hr
    rw [if_neg (by decide)];have e8:zZ.tmps[8]?=some (.bool true):=hr 8 (by decide);exact Rg.aW rfl (by go_simp)
   ·intro zZ w_ hJ hr
    rw [if_neg (by decide)];have e37:=Rg.l_ (hr 37 (by decide));exact Rg.aW rfl (by go_simp)
   ·intro zZ w_ hJ hr
    rw [if_neg (by decide)];have e7:zZ.tmps[7]?=some (.pointer (some ⟨w4.heap.size,0,none⟩)):=hr 7 (by decide);have e38:=Rg.l_ (hr 38 (by decide));have k0:=hJ.1.box.c0;have k1:=hJ.1.box.c1;exact Rg.aW (Rg.ar (j:=3) (b:=true) rfl (Rg.Dg rfl e38)) (by go_simp)
   ·intro zZ w_ hJ hr
    rw [if_neg (by decide)];have e38:=Rg.l_ (hr 38 (by decide));have e39:=Rg.l_ (hr 39 (by decide));have ef:=Rg.ef zZ;exact Rg.bV (Rg.ar (j:=3) (b:=true) rfl (Rg.Dg rfl e38)) (by go_simp) (PV.out _)
   ·intro zZ w_ hJ hr
    rw [if_neg (by decide)];have e38:=Rg.l_ (hr 38 (by decide));have e40:=Rg.l_ (hr 40 (by decide));have ec:=Rg.ec zZ;exact Rg.aW rfl (by first | (go_simp;done))
   ·intro zZ w_ hJ hr
    rw [if_pos rfl];have e4:zZ.tmps[4]?=some (.pointer (some ⟨w.heap.size+1+1,0,none⟩)):=hr 4 (by decide);have e35:=Rg.l_ (hr 35 (by decide));obtain ⟨Pi,⟨u_,v_,hJ2⟩,hJ3⟩:=hJ;have e35:zZ.tmps[35]?=some (.agg #[bl,bh]):=Rg.l_ (hr 35 (by decide));have e4:zZ.tmps[4]?=some (.pointer (some ⟨w.heap.size+1+1,0,none⟩)):=hr 4 (by decide);have ⟨y0,y1,x0,x1,_⟩:=hJ2.box;refine ⟨rfl,?_⟩;unfold Oper.wp;go_simp
    exact ⟨⟨Pi.cK (show w4.heap.size≠w.heap.size+1+1 by omega) _ _,⟨_,_,aG.set2 hJ2 _ _⟩,ej hJ3 (by omega) _ _⟩,fun _ _ hb=>(aG.set2 hJ2 _ _).keep hb⟩
   ·intro zZ w_ hJ hr
    rw [if_neg (by decide)];have e36:=Rg.l_ (hr 36 (by decide));exact Rg.aW rfl (by go_simp)
   ·intro zZ w_ hJ hr
    rw [if_neg (by decide)];have e41:=Rg.l_ (hr 41 (by decide));exact Rg.aW rfl (by go_simp)
   intro vals wz hJ2 hv;have GP:vals 8=.int .i64 (k:Int):=hv 8 (by decide);have EM:vals 9=.bool (M.aJ bl bh):=hv 9 (by decide);have hst:=hv 7 (by decide);simp only [Rg.bF,Rg.fill,Act.put,Nat.reduceAdd];clear hv;simp only [GP,EM];clear GP EM;have ⟨y0,y1,x0,x1,_⟩:=aG.box (Rg.bs hst);have B2:=hJ2.2.2;clear hst hJ2;go_wp2;exact bodyPost_ret (v:=.tuple #[.agg #[bl,bh],.int .i64 (k:Int),M.aJ bl bh]) (by simp [results,Tryz.results148,go_sem, *]) rfl (⟨by rw [GU.out,He.out,hbk.out,FW.out],B2⟩)
  | true=>
  rw [hok,if_pos rfl] at hNs;have Kz:=DB (hNs.symm.trans hN.out);rw [hok] at P1;have eL:=DB eL;have eH:=DB eH;clear hNs hok hN;have hk1:=DB (show ((k+1:Nat):Int)=(k:Int)+1 by omega);rw [hk1.out] at P1;have P1:=DB P1;generalize hbk:M.bL a b X E k=bl at *;generalize FW:M.bH a b X E k=bh at *;clear hbk FW
  go_wp2_with (first
   | (go_at_call 155;(with_reducible refine (P1.out _).mono ?_);rintro e w5 ⟨rfl,hb5⟩;replace C:=C.keep hb5;replace R:=R.keep hb5;replace T:=T.keep hb5;replace B:=d_ B hb5;replace Q:=Q.keep hb5;replace Q:=Q.alloc (.cells #[hl,hh] 74);have S:=aG.new w5 #[hl,hh] 74;have b_:=bA w5 (.cells #[hl,hh] 74);replace C:=C.keep b_;replace R:=R.keep b_;replace T:=T.keep b_;replace B:=d_ B b_;clear b_;(replace ⟨e_,f_⟩:=C.b2);(replace ⟨p_,r_,s_,t_⟩:=R.EK);(replace ⟨Dn,Do,Fz,F0⟩:=T.EK);(replace ⟨Fx,Fy⟩:=S.b2))
   | (go_at_call 156;(with_reducible refine (PC.out _).mono ?_);rintro e w6 ⟨rfl,hb6⟩;replace C:=C.keep hb6;replace R:=R.keep hb6;replace T:=T.keep hb6;replace S:=S.keep hb6;replace B:=d_ B hb6;replace Q:=Q.keep hb6;(replace ⟨e_,f_⟩:=C.b2);(replace ⟨p_,r_,s_,t_⟩:=R.EK);(replace ⟨Dn,Do,Fz,F0⟩:=T.EK);(replace ⟨Fx,Fy⟩:=S.b2)))
  go_roundw
  case rel=>exact ⟨k+1,by omega,by go_num,Kz,by rw [eL.out,eH.out];exact aG.set2 T _ _,(C.other (show w.heap.size≠w4.heap.size by omega) _).other (show w.heap.size≠w4.heap.size by omega) _,(Q.other (show w.heap.size+1≠w4.heap.size by omega) _).other (show w.heap.size+1≠w4.heap.size by omega) _,(R.other (show w.heap.size+1+1≠w4.heap.size by omega) _).other (show w.heap.size+1+1≠w4.heap.size by omega) _,Gh B⟩
  case measure=>simp [intOf] <;> omega
 obtain rfl:k=5:=by omega
 have GU:=DB (show M.bN a b X E=5 by rw [←hN.out];rfl)
 have PV:=DB fun W=>pK (M.bL a b X E 5) (M.bH a b X E 5) W
 have He:=DB (show M.EA a b X E=M.aJ (M.bL a b X E 5) (M.bH a b X E 5) by unfold M.EA;rw [GU.out]);clear hN PK
 obtain ⟨k,hk5⟩:∃ k:Nat,k=5:=⟨5,rfl⟩
 rw [←hk5] at GU PV He T ⊢;rw [←hk5] at Dn Do
 have hlt5:¬ (k:Int)<5:=by omega
 go_upto_region 8 with fail
 generalize hbk:M.bL a b X E k=bl at *;generalize FW:M.bH a b X E k=bh at *;replace hbk:=DB hbk;replace FW:=DB FW;refine Rg.Aj 7 [.is (.agg #[bl,bh]),.is (.int .i64 (k:Int)),.is true,.is true,.is (.agg #[bl,bh]),.is (M.aJ bl bh),.is (M.aJ bl bh),.at (fun _ W=>aG W (w.heap.size+1+1) 74 #[bl,bh]),.is (.int .i64 (k:Int)),.is (M.aJ bl bh)] (fun W=>aG W w4.heap.size 74 #[bl,bh]/\(∃ u v,aG W (w.heap.size+1+1) 74 #[u,v])/\Below w.heap.size w W) (by kernel_rfl) (by kernel_rfl) ?_ (fun j hj=>match j,hj with | 0,hj=>rfl | 1,hj=>rfl | 2,hj=>rfl | 3,hj=>rfl | 4,hj=>rfl | 5,hj=>rfl | 6,hj=>rfl | 7,hj=>absurd rfl hj | 8,hj=>rfl | 9,hj=>rfl | n+10,_=>rfl) ?_ ⟨?_,?_,?_,?_,?_,?_,?_,?_,?_,?_,trivial⟩ ?_
 ·exact fun W W_ h hb=>⟨h.1.keep hb,⟨_,_,h.2.1.choose_spec.choose_spec.keep hb⟩,h.2.2.trans (hb.mono h.2.2.size)⟩
 ·exact ⟨T,⟨_,_,R⟩,B⟩
 ·intro zZ w_ hJ hr
  rw [if_neg (by decide)];have e7:zZ.tmps[7]?=some (.pointer (some ⟨w4.heap.size,0,none⟩)):=hr 7 (by decide);have k0:=hJ.1.box.c0;have k1:=hJ.1.box.c1;exact Rg.aW rfl (by go_simp)
 ·intro zZ w_ hJ hr
  rw [if_neg (by decide)];have e9:zZ.tmps[9]?=some (.int .i64 (k:Int)):=hr 9 (by decide);exact Rg.aW rfl (by go_simp)
 ·intro zZ w_ hJ hr
  rw [if_neg (by decide)];have e8:zZ.tmps[8]?=some (.bool true):=hr 8 (by decide);exact Rg.aW rfl (by go_simp)
 ·intro zZ w_ hJ hr
  rw [if_neg (by decide)];have e37:=Rg.l_ (hr 37 (by decide));exact Rg.aW rfl (by go_simp)
 ·intro zZ w_ hJ hr
  rw [if_neg (by decide)];have e7:zZ.tmps[7]?=some (.pointer (some ⟨w4.heap.size,0,none⟩)):=hr 7 (by decide);have e38:=Rg.l_ (hr 38 (by decide));have k0:=hJ.1.box.c0;have k1:=hJ.1.box.c1;exact Rg.aW (Rg.ar (j:=3) (b:=true) rfl (Rg.Dg rfl e38)) (by go_simp)
 ·intro zZ w_ hJ hr
  rw [if_neg (by decide)];have e38:=Rg.l_ (hr 38 (by decide));have e39:=Rg.l_ (hr 39 (by decide));have ef:=Rg.ef zZ;exact Rg.bV (Rg.ar (j:=3) (b:=true) rfl (Rg.Dg rfl e38)) (by go_simp) (PV.out _)
 ·intro zZ w_ hJ hr
  rw [if_neg (by decide)];have e38:=Rg.l_ (hr 38 (by decide));have e40:=Rg.l_ (hr 40 (by decide));have ec:=Rg.ec zZ;exact Rg.aW rfl (by first | (go_simp;done))
 ·intro zZ w_ hJ hr
  rw [if_pos rfl];have e4:zZ.tmps[4]?=some (.pointer (some ⟨w.heap.size+1+1,0,none⟩)):=hr 4 (by decide);have e35:=Rg.l_ (hr 35 (by decide));obtain ⟨Pi,⟨u_,v_,hJ2⟩,hJ3⟩:=hJ;have e35:zZ.tmps[35]?=some (.agg #[bl,bh]):=Rg.l_ (hr 35 (by decide));have e4:zZ.tmps[4]?=some (.pointer (some ⟨w.heap.size+1+1,0,none⟩)):=hr 4 (by decide);have ⟨y0,y1,x0,x1,_⟩:=hJ2.box;refine ⟨rfl,?_⟩;unfold Oper.wp;go_simp
  exact ⟨⟨Pi.cK (show w4.heap.size≠w.heap.size+1+1 by omega) _ _,⟨_,_,aG.set2 hJ2 _ _⟩,ej hJ3 (by omega) _ _⟩,fun _ _ hb=>(aG.set2 hJ2 _ _).keep hb⟩
 ·intro zZ w_ hJ hr
  rw [if_neg (by decide)];have e36:=Rg.l_ (hr 36 (by decide));exact Rg.aW rfl (by go_simp)
 ·intro zZ w_ hJ hr
  rw [if_neg (by decide)];have e41:=Rg.l_ (hr 41 (by decide));exact Rg.aW rfl (by go_simp)
 intro vals wz hJ2 hv;have GP:vals 8=.int .i64 (k:Int):=hv 8 (by decide);have EM:vals 9=.bool (M.aJ bl bh):=hv 9 (by decide);have hst:=hv 7 (by decide);simp only [Rg.bF,Rg.fill,Act.put,Nat.reduceAdd];clear hv;simp only [GP,EM];clear GP EM;have ⟨y0,y1,x0,x1,_⟩:=aG.box (Rg.bs hst);have B2:=hJ2.2.2;clear hst hJ2;go_wp2;exact bodyPost_ret (v:=.tuple #[.agg #[bl,bh],.int .i64 (k:Int),M.aJ bl bh]) (by simp [results,Tryz.results148,go_sem, *]) rfl (⟨by rw [GU.out,He.out,hbk.out,FW.out],B2⟩)
theorem vQ (a b X Y E:Int) (w:World) (hg:M.good a b=true) (hX1:-10000<=X) (hX2:X<=10000) (hE1:0<=E) (hE2:E<=20) :
  Calls Tryz.prog 150 #[.agg #[a,b],.agg #[X,Y,E]] w fun e w'=>e=.returned (.tuple #[.agg #[M.pick (M.EA a b X E) (M.pn (M.bL a b X E (M.bN a b X E))),M.pick (M.EA a b X E) (M.pd (M.bL a b X E (M.bN a b X E))),M.pick (M.EA a b X E) (M.pn (M.bH a b X E (M.bN a b X E))),M.pick (M.EA a b X E) (M.pd (M.bH a b X E (M.bN a b X E)))],M.pick (M.EA a b X E) ((M.bN a b X E:Nat):Int),M.EA a b X E])/\Below w.heap.size w w':=by
 have P0:=fun W=>kr a b X Y E 0 W hg hX1 hX2 hE1 hE2 (by omega)
 rw [M.AX,show ((0:Nat):Int)=0 from rfl] at P0;simp only [M.gh] at P0
 have PK:=DB fun (k:Nat) W (hk:k<=5)=>kr a b X Y E k W hg hX1 hX2 hE1 hE2 hk
 have hL0:=DB (show M.hL (M.hC a b) 0 (M.aZ a b X E 0)=M.bL a b X E 0 from rfl);have hH0:=DB (show M.hH (M.hC a b) 0 (M.aZ a b X E 0)=M.bH a b X E 0 from rfl);have hin:=M.aj hg
 have hno:=DB fun k hk hs=>M.CS (a:=a) (b:=b) (X:=X) (E:=E) (k:=k) hin hX1 hX2 hE1 hE2 hk hs
 have hss:=DB fun n hn=>M.Cd (a:=a) (b:=b) (X:=X) (E:=E) (C:=M.hC a b) (n:=n) (M.mQ hin) hn hX1 hX2 hE1 hE2
 have hs0:=DB (show M.aJ (M.bL a b X E 0) (M.bH a b X E 0)=true from hss.out 0 (by omega));clear hg hin;rw [hL0.out,hH0.out] at P0;clear hL0 hH0;have P0:=DB P0;obtain ⟨wc,hw3,C,Q,R,B⟩:=cZ w #[a,b] 25 #[X,Y,E] 40 #[(0:Int),(0:Int),(0:Int),(0:Int)] 78;have ⟨q0,q1,q2⟩:=Q.aO;have e_:=C.box.c0;have f_:=C.box.c1;have p_:=R.aL.c0;have s_:=R.aL.f0;have r_:=R.aL.c1;have t_:=R.aL.f1;have y_:=R.aL.c2;have C_:=R.aL.f2;have A_:=R.aL.c3;have DG:=R.aL.f3;generalize hu1:M.pn (M.bL a b X E 0)=u1 at *;generalize hu2:M.pd (M.bL a b X E 0)=u2 at *;generalize hu3:M.pn (M.bH a b X E 0)=u3 at *;generalize MS:M.pd (M.bH a b X E 0)=u4 at *;replace hu1:=DB hu1;replace hu2:=DB hu2;replace hu3:=DB hu3;replace MS:=DB MS;go_enter Tryz.func150,Tryz.ntmps150
 go_wp2_with (go_at_call 157;(with_reducible refine (P0.out _).mono ?_);rintro e w4 ⟨rfl,hb4⟩;replace C:=C.keep hb4;replace R:=R.keep hb4;replace B:=d_ B hb4;replace Q:=Q.keep hb4;have KA:=DB R.lt;replace Q:=Q.alloc (.cells #[u1,u2,u3,u4] 78);have T:=aG.new w4 #[u1,u2,u3,u4] 78;have b_:=bA w4 (.cells #[u1,u2,u3,u4] 78);replace C:=C.keep b_;replace R:=R.keep b_;replace B:=d_ B b_;clear b_;(replace ⟨e_,f_⟩:=C.b2);(replace ⟨p_,r_,y_,A_,s_,t_,C_,DG⟩:=R.Da);(replace ⟨Dn,Do,FM,FN⟩:=T.b4))
 go_loopw [9] (fun vi wr=>∃ k:Nat,k<=5/\vi=.int .i64 k/\Hid (M.GJ a b X E (5 - k) k=M.bN a b X E)/\Hid (M.aJ (M.bL a b X E k) (M.bH a b X E k)=true)/\aG wr w4.heap.size 78 #[M.pn (M.bL a b X E k),M.pd (M.bL a b X E k),M.pn (M.bH a b X E k),M.pd (M.bH a b X E k)]/\aG wr w.heap.size 25 #[a,b]/\aG wr (w.heap.size+1) 40 #[X,Y,E]/\aG wr (w.heap.size+1+1) 78 #[(0:Int),(0:Int),(0:Int),(0:Int)]/\Below w.heap.size w wr) (fun vi _=>5 - (intOf vi).toNat)
 case atStart=>exact ⟨0,by omega,rfl,DB rfl,hs0,by rw [hu1.out,hu2.out,hu3.out,MS.out];exact T,C,Q,R,B⟩
 case round=>
 clear C Q R B T P0 e_ f_ p_ r_ y_ A_ s_ t_ C_ DG Dn Do FM FN q0 q1 q2 hu1 hu2 hu3 MS hs0;have hR9:=KA.out;obtain ⟨k,hk,rfl,hN,hsk,T,C,Q,R,B⟩:=hrel;have eL:M.bL a b X E (k+1)=max (M.bL a b X E k) (M.hL (M.hC a b) (k+1) (M.aZ a b X E (k+1))):=rfl;have eH:M.bH a b X E (k+1)=min (M.bH a b X E k) (M.hH (M.hC a b) (k+1) (M.aZ a b X E (k+1))):=rfl;have eL:=DB eL;have eH:=DB eH;generalize hbk:M.bL a b X E k=bl at *;generalize FW:M.bH a b X E k=bh at *;replace hbk:=DB hbk;replace FW:=DB FW;have e_:=C.box.c0;have f_:=C.box.c1;have ⟨q0,q1,q2⟩:=Q.aO;have Dn:=T.aL.c0;have Do:=T.aL.c1;have FM:=T.aL.c2;have FN:=T.aL.c3;have Fz:=T.aL.f0;have F0:=T.aL.f1;have Hn:=T.aL.f2;have Ho:=T.aL.f3;have p_:=R.aL.c0;have r_:=R.aL.c1;have y_:=R.aL.c2;have A_:=R.aL.c3;have s_:=R.aL.f0;have t_:=R.aL.f1;have C_:=R.aL.f2;have DG:=R.aL.f3
 by_cases hlt:k<5
 ·have P1:=fun W=>PK.out (k+1) W (by omega)
  have hNs:M.GJ a b X E (5 - k) k=if M.isOk (M.aZ a b X E (k+1))=true then M.GJ a b X E (5 - (k+1)) (k+1) else k:=by
   rw [show 5 - k=(5 - (k+1))+1 by omega];rfl
  have hsn:=hss.out (k+1) (by omega);generalize M.hH (M.hC a b) (k+1) (M.aZ a b X E (k+1))=hh,M.hL (M.hC a b) (k+1) (M.aZ a b X E (k+1))=hl at *;have hk1:=DB (show ((k+1:Nat):Int)=(k:Int)+1 by omega);rw [hk1.out] at P1
  cases hok:M.isOk (M.aZ a b X E (k+1)) with
  | false=>
   rw [hok,if_neg (by decide)] at hNs;have GU:=DB (show M.bN a b X E=k by rw [←hN.out,hNs]);rw [hok] at P1;simp only [M.jd] at P1;have He:=DB (show M.EA a b X E=true by unfold M.EA;rw [GU.out,hbk.out,FW.out];exact hsk.out);clear hNs hok hN eL eH hsn;have P1:=DB P1;generalize Gd:M.pn (bl)=t1 at *;replace Gd:=DB Gd;generalize Ge:M.pd (bl)=t2 at *;replace Ge:=DB Ge;generalize Gf:M.pn (bh)=t3 at *;replace Gf:=DB Gf;generalize Gg:M.pd (bh)=t4 at *;replace Gg:=DB Gg
   go_wp2_with (go_at_call 157;(with_reducible refine (P1.out _).mono ?_);rintro e w5 ⟨rfl,hb5⟩;replace C:=C.keep hb5;replace R:=R.keep hb5;replace T:=T.keep hb5;replace B:=d_ B hb5;replace Q:=Q.keep hb5;replace Q:=Q.alloc (.cells #[(0:Int),(0:Int),(0:Int),(0:Int)] 78);have S:=aG.new w5 #[(0:Int),(0:Int),(0:Int),(0:Int)] 78;have b_:=bA w5 (.cells #[(0:Int),(0:Int),(0:Int),(0:Int)] 78);replace C:=C.keep b_;replace R:=R.keep b_;replace T:=T.keep b_;replace B:=d_ B b_;clear b_;(replace ⟨e_,f_⟩:=C.b2);(replace ⟨p_,r_,y_,A_,s_,t_,C_,DG⟩:=R.Da);(replace ⟨Dn,Do,FM,FN⟩:=T.b4);(replace ⟨Fx,Fy,Hl,Hm⟩:=S.b4))
   exact bodyPost_ret (v:=.tuple #[.agg #[t1,t2,t3,t4],.int .i64 (k:Int),true]) (by simp [results,Tryz.results150,go_sem, *]) rfl (⟨by rw [GU.out,He.out,hbk.out,FW.out,Gd.out,Ge.out,Gf.out,Gg.out];simp only [M.gh],D9 B⟩)
  | true=>
  rw [hok,if_pos rfl] at hNs;have Kz:=DB (hNs.symm.trans hN.out);rw [hok] at P1;simp only [M.gh] at P1
  have PC:=fun W=>nE bl bh hl hh W hsk.out hsn
  clear hNs hok hN;have P1:=DB P1;have hse:=DB (show M.aJ (M.bL a b X E (k+1)) (M.bH a b X E (k+1))=M.aJ (max bl hl) (min bh hh) by rw [eL.out,eH.out])
  cases hs:M.aJ (max bl hl) (min bh hh) with
  | false=>
   have He:=DB (show M.EA a b X E=false from hno.out (k+1) (by have:=M.vI (a:=a) (b:=b) (X:=X) (E:=E) (5 - (k+1)) (k+1);rw [Kz.out] at this;exact this) (by rw [hse.out];exact hs));rw [hs] at PC;simp only [M.jd] at PC;clear hs hse;have PC:=DB PC;generalize Gd:M.pn (bl)=t1 at *;replace Gd:=DB Gd;generalize Ge:M.pd (bl)=t2 at *;replace Ge:=DB Ge;generalize Gf:M.pn (bh)=t3 at *;replace Gf:=DB Gf;generalize Gg:M.pd (bh)=t4 at *;replace Gg:=DB Gg;generalize L0:M.pn (hl)=y1 at *;replace L0:=DB L0;generalize L4:M.pd (hl)=y2 at *;replace L4:=DB L4;generalize L5:M.pn (hh)=y3 at *;replace L5:=DB L5;generalize L6:M.pd (hh)=y4 at *;replace L6:=DB L6
   go_wp2_with (first
    | (go_at_call 157;(with_reducible refine (P1.out _).mono ?_);rintro e w5 ⟨rfl,hb5⟩;replace C:=C.keep hb5;replace R:=R.keep hb5;replace T:=T.keep hb5;replace B:=d_ B hb5;replace Q:=Q.keep hb5;replace Q:=Q.alloc (.cells #[y1,y2,y3,y4] 78);have S:=aG.new w5 #[y1,y2,y3,y4] 78;have b_:=bA w5 (.cells #[y1,y2,y3,y4] 78);replace C:=C.keep b_;replace R:=R.keep b_;replace T:=T.keep b_;replace B:=d_ B b_;clear b_;(replace ⟨e_,f_⟩:=C.b2);(replace ⟨p_,r_,y_,A_,s_,t_,C_,DG⟩:=R.Da);(replace ⟨Dn,Do,FM,FN,Fz,F0,Hn,Ho⟩:=T.Da);(replace ⟨Fx,Fy,Hl,Hm⟩:=S.b4))
    | (go_at_call 158;(with_reducible refine (PC.out _).mono ?_);rintro e w6 ⟨rfl,hb6⟩;replace C:=C.keep hb6;replace R:=R.keep hb6;replace T:=T.keep hb6;replace S:=S.keep hb6;replace B:=d_ B hb6;replace Q:=Q.keep hb6;replace Q:=Q.alloc (.cells #[(0:Int),(0:Int),(0:Int),(0:Int)] 78);have O:=aG.new w6 #[(0:Int),(0:Int),(0:Int),(0:Int)] 78;have b_:=bA w6 (.cells #[(0:Int),(0:Int),(0:Int),(0:Int)] 78);replace C:=C.keep b_;replace R:=R.keep b_;replace T:=T.keep b_;replace S:=S.keep b_;replace B:=d_ B b_;clear b_;(replace ⟨e_,f_⟩:=C.b2);(replace ⟨p_,r_,y_,A_,s_,t_,C_,DG⟩:=R.Da);(replace ⟨Dn,Do,FM,FN,Fz,F0,Hn,Ho⟩:=T.Da);(replace ⟨Fx,Fy,Hl,Hm⟩:=S.b4);(replace ⟨Ed,Ee,Ef,Eg⟩:=O.b4)))
   exact bodyPost_ret (v:=.tuple #[.agg #[(0:Int),(0:Int),(0:Int),(0:Int)],(0:Int),false]) (by simp [results,Tryz.results150,go_sem, *]) rfl (⟨by rw [He.out];simp only [M.jd],D9 B⟩)
  | true=>
  have hs2:=DB (hse.out.trans hs);rw [hs] at PC;simp only [M.gh] at PC;clear hs hse;have PC:=DB PC;generalize Gd:M.pn (bl)=t1 at *;replace Gd:=DB Gd;generalize Ge:M.pd (bl)=t2 at *;replace Ge:=DB Ge;generalize Gf:M.pn (bh)=t3 at *;replace Gf:=DB Gf;generalize Gg:M.pd (bh)=t4 at *;replace Gg:=DB Gg;generalize L0:M.pn (hl)=y1 at *;replace L0:=DB L0;generalize L4:M.pd (hl)=y2 at *;replace L4:=DB L4;generalize L5:M.pn (hh)=y3 at *;replace L5:=DB L5;generalize L6:M.pd (hh)=y4 at *;replace L6:=DB L6;generalize RY:M.pn (max bl hl)=z1 at *;replace RY:=DB RY;generalize RZ:M.pd (max bl hl)=z2 at *;replace RZ:=DB RZ;generalize Ra:M.pn (min bh hh)=z3 at *;replace Ra:=DB Ra;generalize Rb:M.pd (min bh hh)=z4 at *;replace Rb:=DB Rb
  go_wp2_with (first
   | (go_at_call 157;(with_reducible refine (P1.out _).mono ?_);rintro e w5 ⟨rfl,hb5⟩;replace C:=C.keep hb5;replace R:=R.keep hb5;replace T:=T.keep hb5;replace B:=d_ B hb5;replace Q:=Q.keep hb5;replace Q:=Q.alloc (.cells #[y1,y2,y3,y4] 78);have S:=aG.new w5 #[y1,y2,y3,y4] 78;have b_:=bA w5 (.cells #[y1,y2,y3,y4] 78);replace C:=C.keep b_;replace R:=R.keep b_;replace T:=T.keep b_;replace B:=d_ B b_;clear b_;(replace ⟨e_,f_⟩:=C.b2);(replace ⟨p_,r_,y_,A_,s_,t_,C_,DG⟩:=R.Da);(replace ⟨Dn,Do,FM,FN,Fz,F0,Hn,Ho⟩:=T.Da);(replace ⟨Fx,Fy,Hl,Hm⟩:=S.b4))
   | (go_at_call 158;(with_reducible refine (PC.out _).mono ?_);rintro e w6 ⟨rfl,hb6⟩;replace C:=C.keep hb6;replace R:=R.keep hb6;replace T:=T.keep hb6;replace S:=S.keep hb6;replace B:=d_ B hb6;replace Q:=Q.keep hb6;replace Q:=Q.alloc (.cells #[z1,z2,z3,z4] 78);have O:=aG.new w6 #[z1,z2,z3,z4] 78;have b_:=bA w6 (.cells #[z1,z2,z3,z4] 78);replace C:=C.keep b_;replace R:=R.keep b_;replace T:=T.keep b_;replace S:=S.keep b_;replace B:=d_ B b_;clear b_;(replace ⟨e_,f_⟩:=C.b2);(replace ⟨p_,r_,y_,A_,s_,t_,C_,DG⟩:=R.Da);(replace ⟨Dn,Do,FM,FN,Fz,F0,Hn,Ho⟩:=T.Da);(replace ⟨Fx,Fy,Hl,Hm⟩:=S.b4);(replace ⟨Ed,Ee,Ef,Eg⟩:=O.b4)))
  go_roundw
  case rel=>exact ⟨k+1,by omega,by go_num,Kz,hs2,by rw [eL.out,eH.out,RY.out,RZ.out,Ra.out,Rb.out];exact aG.mJ T _ _ _ _,(((C.other (show w.heap.size≠w4.heap.size by omega) _).other (show w.heap.size≠w4.heap.size by omega) _).other (show w.heap.size≠w4.heap.size by omega) _).other (show w.heap.size≠w4.heap.size by omega) _,(((Q.other (show w.heap.size+1≠w4.heap.size by omega) _).other (show w.heap.size+1≠w4.heap.size by omega) _).other (show w.heap.size+1≠w4.heap.size by omega) _).other (show w.heap.size+1≠w4.heap.size by omega) _,(((R.other (show w.heap.size+1+1≠w4.heap.size by omega) _).other (show w.heap.size+1+1≠w4.heap.size by omega) _).other (show w.heap.size+1+1≠w4.heap.size by omega) _).other (show w.heap.size+1+1≠w4.heap.size by omega) _,D9 B⟩
  case measure=>simp [intOf] <;> omega
 obtain rfl:k=5:=by omega
 have GU:=DB (show M.bN a b X E=5 by rw [←hN.out];rfl);have He:=DB (show M.EA a b X E=true by unfold M.EA;rw [GU.out,hbk.out,FW.out];exact hsk.out);clear hN PK eL eH
 obtain ⟨k,hk5⟩:∃ k:Nat,k=5:=⟨5,rfl⟩
 rw [←hk5] at GU hbk FW;have KC:=DB (show (k:Int)=5 by omega);clear hk5;generalize Gd:M.pn (bl)=t1 at *;replace Gd:=DB Gd;generalize Ge:M.pd (bl)=t2 at *;replace Ge:=DB Ge;generalize Gf:M.pn (bh)=t3 at *;replace Gf:=DB Gf;generalize Gg:M.pd (bh)=t4 at *;replace Gg:=DB Gg;go_wp2;exact bodyPost_ret (v:=.tuple #[.agg #[t1,t2,t3,t4],(5:Int),true]) (by simp [results,Tryz.results150,go_sem, *]) rfl (⟨by rw [GU.out,He.out,KC.out,hbk.out,FW.out,Gd.out,Ge.out,Gf.out,Gg.out];simp only [M.gh],D9 B⟩)
theorem rK (a b X Y E:Int) (w:World) (hg:M.good a b=true) (hX1:-10000<=X) (hX2:X<=10000) (hE1:0<=E) (hE2:E<=20) :
  Calls Tryz.prog 138 #[.agg #[a,b],.agg #[X,Y,E]] w fun e w'=>e=.returned (.tuple #[.agg #[M.pick (M.EA a b X E) (M.pn (M.bL a b X E (M.bN a b X E))),M.pick (M.EA a b X E) (M.pd (M.bL a b X E (M.bN a b X E))),M.pick (M.EA a b X E) (M.pn (M.bH a b X E (M.bN a b X E))),M.pick (M.EA a b X E) (M.pd (M.bH a b X E (M.bN a b X E)))],M.EA a b X E])/\Below w.heap.size w w':=by
 have P1:=fun W=>vQ a b X Y E W hg hX1 hX2 hE1 hE2
 generalize M.pick (M.EA a b X E) (M.pd (M.bH a b X E (M.bN a b X E)))=p4,M.pick (M.EA a b X E) (M.pn (M.bH a b X E (M.bN a b X E)))=p3,M.pick (M.EA a b X E) (M.pd (M.bL a b X E (M.bN a b X E)))=p2,M.pick (M.EA a b X E) (M.pn (M.bL a b X E (M.bN a b X E)))=p1 at *;generalize M.pick (M.EA a b X E) ((M.bN a b X E:Nat):Int)=nn at *;generalize M.EA a b X E=s at *;have P1:=DB P1;obtain ⟨wc,hw3,C,Q,R,B⟩:=cZ w #[a,b] 25 #[X,Y,E] 40 #[(0:Int),(0:Int),(0:Int),(0:Int)] 78;have ⟨q0,q1,q2⟩:=Q.aO;have e_:=C.box.c0;have f_:=C.box.c1;go_enter Tryz.func138,Tryz.ntmps138
 go_wp2_with (go_at_call 150;(with_reducible refine (P1.out _).mono ?_);rintro e w4 ⟨rfl,hb4⟩;replace C:=C.keep hb4;replace R:=R.keep hb4;replace B:=d_ B hb4;have T:=aG.new w4 #[p1,p2,p3,p4] 78;have b_:=bA w4 (.cells #[p1,p2,p3,p4] 78);replace C:=C.keep b_;replace R:=R.keep b_;replace B:=d_ B b_;clear b_;(replace ⟨e_,f_⟩:=C.b2);(replace ⟨p_,r_,y_,A_,s_,t_,C_,DG⟩:=R.Da);(replace ⟨Dn,Do,FM,FN⟩:=T.b4))
 exact bodyPost_ret (v:=.tuple #[.agg #[p1,p2,p3,p4],s]) (by simp [results,Tryz.results138,go_sem, *]) rfl (⟨rfl,D9 B⟩)
namespace M
def cv (a b x e:Int):Int:=x*x*x+a*x*e*e*e*e+b*e*e*e*e*e*e
def aY (a b X Y E:Int):Bool:=if E=0 then decide (X=0) && decide (Y=0) else M.ins X (-10000) 10000 && M.ins E 1 20 && (M.gcd X E == 1) && decide (Y*Y=cv a b X E)
theorem ve (a b x e:Int):x*x*x+a*x*(e*e)*(e*e)+b*(e*e)*(e*e)*(e*e)=cv a b x e:=by unfold cv;grind
end M
theorem f8 (a b x e:Int) (w:World) (ha1:-1000<=a) (ha2:a<=1000) (hb1:-10000<=b) (hb2:b<=10000) (hx1:-10000<=x) (hx2:x<=10000) (he1:-20<=e) (he2:e<=20) :
  Calls Tryz.prog 84 #[.agg #[a,b],x,e] w fun e' w'=>e'=.returned (.int .i64 (M.cv a b x e))/\Below w.heap.size w w':=by
 have sb1:=M.aH (x:=x) (y:=x) (m:=10000) (n:=10000);have Md:=M.aH (x:=x*x) (y:=x) (m:=100000000) (n:=10000);have Me:=M.aH (x:=a) (y:=x) (m:=1000) (n:=10000);have Mf:=M.aH (x:=a*x) (y:=e) (m:=10000000) (n:=20);have Mg:=M.aH (x:=a*x*e) (y:=e) (m:=200000000) (n:=20);have Mh:=M.aH (x:=a*x*e*e) (y:=e) (m:=4000000000) (n:=20);have Mi:=M.aH (x:=a*x*e*e*e) (y:=e) (m:=80000000000) (n:=20);have Mj:=M.aH (x:=b) (y:=e) (m:=10000) (n:=20);have Mk:=M.aH (x:=b*e) (y:=e) (m:=200000) (n:=20);have IF:=M.aH (x:=b*e*e) (y:=e) (m:=4000000) (n:=20);have IG:=M.aH (x:=b*e*e*e) (y:=e) (m:=80000000) (n:=20);have IH:=M.aH (x:=b*e*e*e*e) (y:=e) (m:=1600000000) (n:=20);have II:=M.aH (x:=b*e*e*e*e*e) (y:=e) (m:=32000000000) (n:=20);have hcv:=DB (M.ve a b x e);go_enter Tryz.func84,Tryz.ntmps84
 go_wp2;go_ret;exact ⟨by rfl,(by repeat (first | exact DE _ _ | refine aQ ?_ _ | refine aR ?_ (by assumption) | refine Below.drew ?_ | refine DD ?_ (by first | exact DF _ | exact Nat.le_add_right _ _ | (simp <;> omega)) _ | refine aN ?_ _))⟩
theorem uc (a b x e:Int) (w:World) (ha1:-1000<=a) (ha2:a<=1000) (hb1:-10000<=b) (hb2:b<=10000) (hx1:-10000<=x) (hx2:x<=10000) (he1:-20<=e) (he2:e<=20) :
  Calls Tryz.prog 95 #[.agg #[a,b],x,e] w fun e' w'=>e'=.returned (.int .i64 (M.cv a b x e))/\Below w.heap.size w w':=by
 have IJ:=M.aH (x:=x) (y:=x) (m:=10000) (n:=10000);have IK:=M.aH (x:=x*x) (y:=x) (m:=100000000) (n:=10000);have IL:=M.aH (x:=a) (y:=x) (m:=1000) (n:=10000);have Ju:=M.aH (x:=e) (y:=e) (m:=20) (n:=20);have Jv:=M.aH (x:=a*x) (y:=e*e) (m:=10000000) (n:=400);have Jw:=M.aH (x:=a*x*(e*e)) (y:=e*e) (m:=4000000000) (n:=400);have Jx:=M.aH (x:=b) (y:=e*e) (m:=10000) (n:=400);have Jy:=M.aH (x:=b*(e*e)) (y:=e*e) (m:=4000000) (n:=400);have Jz:=M.aH (x:=b*(e*e)*(e*e)) (y:=e*e) (m:=1600000000) (n:=400);have hcv:=DB (M.ve a b x e);go_enter Tryz.func95,Tryz.ntmps95
 go_wp2;go_ret;exact ⟨by rw [←hcv.out];rfl,(by repeat (first | exact DE _ _ | refine aQ ?_ _ | refine aR ?_ (by assumption) | refine Below.drew ?_ | refine DD ?_ (by first | exact DF _ | exact Nat.le_add_right _ _ | (simp <;> omega)) _ | refine aN ?_ _))⟩
theorem M.pf {a b x e:Int} (ha1:-1000<=a) (ha2:a<=1000) (hb1:-10000<=b) (hb2:b<=10000) (hx1:-10000<=x) (hx2:x<=10000) (he1:-20<=e) (he2:e<=20):-4000000000000<=M.cv a b x e/\M.cv a b x e<=4000000000000:=by
 have J0:=M.aH (x:=x) (y:=x) (m:=10000) (n:=10000);have J1:=M.aH (x:=x*x) (y:=x) (m:=100000000) (n:=10000);have J2:=M.aH (x:=a) (y:=x) (m:=1000) (n:=10000);have J3:=M.aH (x:=a*x) (y:=e) (m:=10000000) (n:=20);have J4:=M.aH (x:=a*x*e) (y:=e) (m:=200000000) (n:=20);have Lm:=M.aH (x:=a*x*e*e) (y:=e) (m:=4000000000) (n:=20);have RN:=M.aH (x:=a*x*e*e*e) (y:=e) (m:=80000000000) (n:=20);have RO:=M.aH (x:=b) (y:=e) (m:=10000) (n:=20);have RP:=M.aH (x:=b*e) (y:=e) (m:=200000) (n:=20);have RQ:=M.aH (x:=b*e*e) (y:=e) (m:=4000000) (n:=20);have RR:=M.aH (x:=b*e*e*e) (y:=e) (m:=80000000) (n:=20);have RS:=M.aH (x:=b*e*e*e*e) (y:=e) (m:=1600000000) (n:=20);have RT:=M.aH (x:=b*e*e*e*e*e) (y:=e) (m:=32000000000) (n:=20);unfold M.cv;omega
theorem M.AN {Y v:Int} (h:Y*Y=v) (hv:v<=4000000000000):-3000000<=Y/\Y<=3000000:=by
 constructor
 ·rcases Int.lt_or_le Y (-3000000) with q | q
  ·have:=Int.mul_le_mul (a:=3000000) (b:=3000000) (c:=-Y) (d:=-Y) (by omega) (by omega) (by omega) (by omega)
   rw [Int.neg_mul_neg] at this;omega
  exact q
 rcases Int.lt_or_le 3000000 Y with q | q
 ·have:=Int.mul_le_mul (a:=3000000) (b:=3000000) (c:=Y) (d:=Y) (by omega) (by omega) (by omega) (by omega)
  omega
 exact q
theorem gy (a b X Y E:Int) (w:World) :
  Calls Tryz.prog 47 #[.agg #[a,b],.agg #[X,Y,E]] w fun e w'=>e=.returned (.bool (M.good a b && M.aY a b X Y E))/\Below w.heap.size w w':=by
 have PC:=fun W=>mT a b W
 have PI:=DB fun n lo hi W=>cQ n lo hi W
 obtain ⟨wc,hw3,C,Q,B⟩:=fR w #[a,b] 25 #[X,Y,E] 40;have ⟨q0,q1,q2⟩:=Q.aO;have e_:=C.box.c0;have f_:=C.box.c1
 cases hgd:M.good a b with
 | false=>
  rw [hgd] at PC;have PC:=DB PC;go_enter Tryz.func47,Tryz.ntmps47
  go_wp2_with (go_at_call 62;(with_reducible refine (PC.out _).mono ?_);rintro e w4 ⟨rfl,hb4⟩;replace C:=C.keep hb4;replace B:=d_ B hb4;replace Q:=Q.keep hb4;(have ⟨z0,z1,z2⟩:=Q.aO);(replace ⟨e_,f_⟩:=C.b2))
  go_ret;exact ⟨rfl,B⟩
 | true=>
 obtain ⟨ha1,ha2,hb1,hb2⟩:=M.ag (M.aj hgd);rw [hgd] at PC;have PC:=DB PC;clear hgd;rw [Bool.true_and]
 by_cases hE:E=0
 ·by_cases hX:X=0
  ·by_cases hY:Y=0
   ·subst hE hX hY
    go_enter Tryz.func47,Tryz.ntmps47
    go_wp2_with (go_at_call 62;(with_reducible refine (PC.out _).mono ?_);rintro e w4 ⟨rfl,hb4⟩;replace C:=C.keep hb4;replace B:=d_ B hb4;replace Q:=Q.keep hb4;(have ⟨z0,z1,z2⟩:=Q.aO);(replace ⟨e_,f_⟩:=C.b2))
    go_ret;exact ⟨rfl,B⟩
   have hres:=DB (show M.aY a b X Y E=false by unfold M.aY;rw [if_pos hE];simp [hY]);have hi:=DB (show M.ins E 1 20=false by unfold M.ins;simp;omega);subst hE hX;rw [hres.out]
   have PE:=fun W=>PI.out 0 1 20 W
   rw [hi.out] at PE;have PE:=DB PE;have hi2:=DB (show M.ins 0 (-10000) 10000=true by decide)
   have PX:=fun W=>PI.out 0 (-10000) 10000 W
   rw [hi2.out] at PX;have PX:=DB PX;clear PI;go_enter Tryz.func47,Tryz.ntmps47
   go_wp2_with (first
    | (go_at_call 62;(with_reducible refine (PC.out _).mono ?_);rintro e w4 ⟨rfl,hb4⟩;replace C:=C.keep hb4;replace B:=d_ B hb4;replace Q:=Q.keep hb4;(have ⟨z0,z1,z2⟩:=Q.aO);(replace ⟨e_,f_⟩:=C.b2))
    | (go_at_call 28;first | ((with_reducible refine (PX.out _).mono ?_);rintro e w6 ⟨rfl,rfl⟩) | ((with_reducible refine (PE.out _).mono ?_);rintro e w6 ⟨rfl,rfl⟩)))
   go_ret;exact ⟨rfl,B⟩
  have hX0:(X == 0)=false:=by rw [beq_eq_false_iff_ne];exact hX
  subst hE
  have EH:(M.ins X (-10000) 10000=false∨M.ins 0 1 20=false)->M.aY a b X Y 0=false:=fun _=>by unfold M.aY;rw [if_pos rfl];simp [hX]
  have hE0:M.ins 0 1 20=false:=by decide
  have P1:=fun W=>PI.out X (-10000) 10000 W
  have P2:=fun W=>PI.out 0 1 20 W
  have P4:=fun W=>PI.out Y (-3000000) 3000000 W
  have hgb:=fun h=>M.gK (n:=X) (lo:=-10000) (hi:=10000) h
  have hge:=fun h=>M.gK (n:=0) (lo:=1) (hi:=20) h
  have hyb:=fun h=>M.AN (Y:=Y) (v:=M.cv a b X 0) h
  have FX:M.ins Y (-3000000) 3000000=true ↔ (-3000000<=Y/\Y<=3000000):=by unfold M.ins;simp
  generalize M.ins Y (-3000000) 3000000=i4,M.ins 0 1 20=i2,M.ins X (-10000) 10000=i1 at *;clear PI
  cases i1 with
  | false=>
   have hr2:=DB (show M.aY a b X Y 0=false from EH (Or.inl rfl));rw [hr2.out];have P1:=DB P1;have P2:=DB P2;have P4:=DB P4;clear hgb hge hyb FX EH;go_enter Tryz.func47,Tryz.ntmps47
   go_wp2_with (first
    | (go_at_call 62;(with_reducible refine (PC.out _).mono ?_);rintro e w4 ⟨rfl,hb4⟩;replace C:=C.keep hb4;replace B:=d_ B hb4;replace Q:=Q.keep hb4;(have ⟨z0,z1,z2⟩:=Q.aO);(replace ⟨e_,f_⟩:=C.b2))
    | (go_at_call 28;first | ((with_reducible refine (P1.out _).mono ?_);rintro e w6 ⟨rfl,rfl⟩) | ((with_reducible refine (P2.out _).mono ?_);rintro e w6 ⟨rfl,rfl⟩) | ((with_reducible refine (P4.out _).mono ?_);rintro e w6 ⟨rfl,rfl⟩)))
   go_ret;exact ⟨rfl,B⟩
  | true=>
  cases i2 with
  | false=>
   have hr2:=DB (show M.aY a b X Y 0=false from EH (Or.inr rfl));rw [hr2.out];have P1:=DB P1;have P2:=DB P2;have P4:=DB P4;clear hgb hge hyb FX EH;go_enter Tryz.func47,Tryz.ntmps47
   go_wp2_with (first
    | (go_at_call 62;(with_reducible refine (PC.out _).mono ?_);rintro e w4 ⟨rfl,hb4⟩;replace C:=C.keep hb4;replace B:=d_ B hb4;replace Q:=Q.keep hb4;(have ⟨z0,z1,z2⟩:=Q.aO);(replace ⟨e_,f_⟩:=C.b2))
    | (go_at_call 28;first | ((with_reducible refine (P1.out _).mono ?_);rintro e w6 ⟨rfl,rfl⟩) | ((with_reducible refine (P2.out _).mono ?_);rintro e w6 ⟨rfl,rfl⟩) | ((with_reducible refine (P4.out _).mono ?_);rintro e w6 ⟨rfl,rfl⟩)))
   go_ret;exact ⟨rfl,B⟩
  | true=>exact absurd hE0 (by decide)
 have hE0:(E == 0)=false:=by rw [beq_eq_false_iff_ne];exact hE
 have hpt:M.aY a b X Y E=(M.ins X (-10000) 10000 && M.ins E 1 20 && (M.gcd X E == 1) && decide (Y*Y=M.cv a b X E)):=by unfold M.aY;rw [if_neg hE]
 have EH:(M.ins X (-10000) 10000=false∨M.ins E 1 20=false)->M.aY a b X Y E=false:=fun h=>by rw [hpt];rcases h with h | h <;> rw [h] <;> simp
 have P1:=fun W=>PI.out X (-10000) 10000 W
 have P2:=fun W=>PI.out E 1 20 W
 have P4:=fun W=>PI.out Y (-3000000) 3000000 W
 have hgb:=fun h=>M.gK (n:=X) (lo:=-10000) (hi:=10000) h
 have hge:=fun h=>M.gK (n:=E) (lo:=1) (hi:=20) h
 have hyb:=fun h=>M.AN (Y:=Y) (v:=M.cv a b X E) h
 have FX:M.ins Y (-3000000) 3000000=true ↔ (-3000000<=Y/\Y<=3000000):=by unfold M.ins;simp
 generalize M.ins Y (-3000000) 3000000=i4,M.ins E 1 20=i2,M.ins X (-10000) 10000=i1 at *;clear PI
 cases i1 with
 | false=>
  have hr2:=DB (show M.aY a b X Y E=false from EH (Or.inl rfl));rw [hr2.out];have P1:=DB P1;have P2:=DB P2;have P4:=DB P4;clear hgb hge hyb FX EH;go_enter Tryz.func47,Tryz.ntmps47
  go_wp2_with (first
   | (go_at_call 62;(with_reducible refine (PC.out _).mono ?_);rintro e w4 ⟨rfl,hb4⟩;replace C:=C.keep hb4;replace B:=d_ B hb4;replace Q:=Q.keep hb4;(have ⟨z0,z1,z2⟩:=Q.aO);(replace ⟨e_,f_⟩:=C.b2))
   | (go_at_call 28;first | ((with_reducible refine (P1.out _).mono ?_);rintro e w6 ⟨rfl,rfl⟩) | ((with_reducible refine (P2.out _).mono ?_);rintro e w6 ⟨rfl,rfl⟩) | ((with_reducible refine (P4.out _).mono ?_);rintro e w6 ⟨rfl,rfl⟩)))
  go_ret;exact ⟨rfl,B⟩
 | true=>
 cases i2 with
 | false=>
  have hr2:=DB (show M.aY a b X Y E=false from EH (Or.inr rfl));rw [hr2.out];have P1:=DB P1;have P2:=DB P2;have P4:=DB P4;clear hgb hge hyb FX EH;go_enter Tryz.func47,Tryz.ntmps47
  go_wp2_with (first
   | (go_at_call 62;(with_reducible refine (PC.out _).mono ?_);rintro e w4 ⟨rfl,hb4⟩;replace C:=C.keep hb4;replace B:=d_ B hb4;replace Q:=Q.keep hb4;(have ⟨z0,z1,z2⟩:=Q.aO);(replace ⟨e_,f_⟩:=C.b2))
   | (go_at_call 28;first | ((with_reducible refine (P1.out _).mono ?_);rintro e w6 ⟨rfl,rfl⟩) | ((with_reducible refine (P2.out _).mono ?_);rintro e w6 ⟨rfl,rfl⟩) | ((with_reducible refine (P4.out _).mono ?_);rintro e w6 ⟨rfl,rfl⟩)))
  go_ret;exact ⟨rfl,B⟩
 | true=>
 rw [Bool.true_and,Bool.true_and] at hpt;have hb1:=hgb rfl;have hb2:=hge rfl;obtain ⟨x1,x2⟩:=hb1;obtain ⟨e1,e2⟩:=hb2
 have PG:=DB fun W=>qC X E W (by omega) (by omega) (by omega) (by omega)
 have hcb:=M.pf (a:=a) (b:=b) (x:=X) (e:=E) ha1 ha2 (by omega) (by omega) x1 x2 (by omega) (by omega)
 have PV:=fun W=>f8 a b X E W ha1 ha2 (by omega) (by omega) x1 x2 (by omega) (by omega)
 clear hgb hge EH;generalize M.gcd X E=gg at *
 by_cases hg1:gg=1
 ·have hg2:(gg == 1)=true:=by rw [beq_iff_eq];exact hg1
  rw [hg2,Bool.true_and] at hpt
  cases i4 with
  | false=>
   have hr2:=DB (show M.aY a b X Y E=false by rw [hpt];simp only [decide_eq_false_iff_not];intro Fb;have:=FX.2 (hyb Fb (by omega));cases this);rw [hr2.out];clear hpt FX hyb hcb PV;have P1:=DB P1;have P2:=DB P2;have P4:=DB P4;go_enter Tryz.func47,Tryz.ntmps47
   go_wp2_with (first
    | (go_at_call 62;(with_reducible refine (PC.out _).mono ?_);rintro e w4 ⟨rfl,hb4⟩;replace C:=C.keep hb4;replace B:=d_ B hb4;replace Q:=Q.keep hb4;(have ⟨z0,z1,z2⟩:=Q.aO);(replace ⟨e_,f_⟩:=C.b2))
    | (go_at_call 28;first | ((with_reducible refine (P1.out _).mono ?_);rintro e w6 ⟨rfl,rfl⟩) | ((with_reducible refine (P2.out _).mono ?_);rintro e w6 ⟨rfl,rfl⟩) | ((with_reducible refine (P4.out _).mono ?_);rintro e w6 ⟨rfl,rfl⟩))
    | (go_at_call 83;(refine (PG.out _).mono ?_);rintro e w7 ⟨rfl,m_,rfl⟩))
   go_ret;exact ⟨rfl,aN B _⟩
  | true=>
  obtain ⟨y1,y2⟩:=FX.1 rfl;have Fb:=M.aH (x:=Y) (y:=Y) (m:=3000000) (n:=3000000);generalize M.cv a b X E=v at *;have hpt:=DB hpt;rw [hpt.out];clear FX hyb hcb;have PV:=DB PV;have P1:=DB P1;have P2:=DB P2;have P4:=DB P4;go_enter Tryz.func47,Tryz.ntmps47
  go_upto_region 7 with (first
   | (go_at_call 62;(with_reducible refine (PC.out _).mono ?_);rintro e w4 ⟨rfl,hb4⟩;replace C:=C.keep hb4;replace B:=d_ B hb4;replace Q:=Q.keep hb4;(have ⟨z0,z1,z2⟩:=Q.aO);(replace ⟨e_,f_⟩:=C.b2))
   | (go_at_call 28;first | ((with_reducible refine (P1.out _).mono ?_);rintro e w6 ⟨rfl,rfl⟩) | ((with_reducible refine (P2.out _).mono ?_);rintro e w6 ⟨rfl,rfl⟩) | ((with_reducible refine (P4.out _).mono ?_);rintro e w6 ⟨rfl,rfl⟩))
   | (go_at_call 83;(refine (PG.out _).mono ?_);rintro e w7 ⟨rfl,m_,rfl⟩))
  have C2:aG (w4.drewN m_) w.heap.size 25 #[a,b]:=by unfold aG at *;rw [World.heap_drewN];exact C
  have Q2:aG (w4.drewN m_) (w.heap.size+1) 40 #[X,Y,E]:=by unfold aG at *;rw [World.heap_drewN];exact Q
  have B2:=aN B m_;generalize w4.drewN m_=wd at *;clear C Q B;refine Rg.bg 13 [.is (.pointer (some ⟨w.heap.size+1,1,none⟩)),.is Y,.is (.pointer (some ⟨w.heap.size+1,1,none⟩)),.is Y,.is (Y*Y:Int),.is (.agg #[a,b]),.is (.pointer (some ⟨w.heap.size+1,0,none⟩)),.is X,.is (.pointer (some ⟨w.heap.size+1,2,none⟩)),.is E,.is v,.is (decide (Y*Y=v)),.is (decide (Y*Y=v))] (by kernel_rfl) (by kernel_rfl) (by kernel_rfl) ⟨?_,?_,?_,?_,?_,?_,?_,?_,?_,?_,?_,?_,?_,trivial⟩ ?_
  all_goals try ((first | (refine Rg.b1 ?_;intro zZ w_ hB e) | (refine Rg.b2 ?_;intro zZ w_ hB e f));have kz:=aE hB Q2.aO.2.1;have kz:=aE hB C2.box.c0;have kz:=aE hB C2.box.c1;have kz:=aE hB Q2.aO.1;have kz:=aE hB Q2.aO.2.2;(first | (go_simp;done) | (go_simp;exact Rg.wo (by omega)) | (go_simp;first | done | rfl | (by_cases DR:Y*Y=v <;> simp [DR];done);done)))
  ·intro _ zZ w_ hB hr
   have e40:=Rg.l_ (hr 40 (by decide));have e42:=Rg.l_ (hr 42 (by decide));have e44:=Rg.l_ (hr 44 (by decide));have ef:=Rg.ef zZ;exact Rg.bV rfl (by go_simp) (PV.out _)
  intro vals wz hB hv hne;have Et:vals 12=.bool (decide (Y*Y=v)):=hv 12 (by decide);simp only [Rg.bF,Rg.fill,Act.put,Nat.reduceAdd];clear hv;simp only [Et];clear Et;unfold Rg.aX;go_wp2;go_ret;exact ⟨rfl,d_ B2 hB⟩
 have hg2:(gg == 1)=false:=by rw [beq_eq_false_iff_ne];exact hg1
 have hr2:=DB (show M.aY a b X Y E=false by rw [hpt,hg2];rfl);rw [hr2.out];clear hpt FX hyb hcb PV;have P1:=DB P1;have P2:=DB P2;have P4:=DB P4;go_enter Tryz.func47,Tryz.ntmps47
 go_wp2_with (first
  | (go_at_call 62;(with_reducible refine (PC.out _).mono ?_);rintro e w4 ⟨rfl,hb4⟩;replace C:=C.keep hb4;replace B:=d_ B hb4;replace Q:=Q.keep hb4;(have ⟨z0,z1,z2⟩:=Q.aO);(replace ⟨e_,f_⟩:=C.b2))
  | (go_at_call 28;first | ((with_reducible refine (P1.out _).mono ?_);rintro e w6 ⟨rfl,rfl⟩) | ((with_reducible refine (P2.out _).mono ?_);rintro e w6 ⟨rfl,rfl⟩) | ((with_reducible refine (P4.out _).mono ?_);rintro e w6 ⟨rfl,rfl⟩))
  | (go_at_call 83;(refine (PG.out _).mono ?_);rintro e w7 ⟨rfl,m_,rfl⟩))
 go_ret;exact ⟨rfl,aN B _⟩
end
section
namespace M
def cW (X Y E:Int):i_:=if E=0 then .O else .fin ((X:Rat) / ((E*E:Int):Rat)) ((Y:Rat) / ((E*E*E:Int):Rat))
theorem gj {a b X Y E:Int} (h:aY a b X Y E=true) (hE:E≠0):(-10000<=X/\X<=10000)/\(1<=E/\E<=20)/\Int.gcd X E=1/\Y*Y=cv a b X E:=by
 unfold aY at h;rw [if_neg hE] at h;simp only [Bool.and_eq_true,ins,decide_eq_true_eq,beq_iff_eq,gcd] at h;obtain ⟨⟨⟨h1,h2⟩,h3⟩,h4⟩:=h;exact ⟨h1,h2,by omega,h4⟩
theorem Bj {a b X Y E:Int} (h:aY a b X Y E=true) (hE:E=0):X=0/\Y=0:=by
 unfold aY at h;rw [if_pos hE] at h;simp only [Bool.and_eq_true,decide_eq_true_eq] at h;exact h
theorem dc {E:Int} (h:E≠0):(E:Rat)≠0:=by exact_mod_cast h
theorem eP {a b X Y E:Int} (h:aY a b X Y E=true):i_.On a b (cW X Y E):=by
 unfold cW
 split
 ·trivial
 rename_i hE
 obtain ⟨-,-,-,h4⟩:=gj h hE;unfold i_.On
 have h5:(Y:Rat)*Y=X*X*X+a*X*E*E*E*E+b*E*E*E*E*E*E:=by
  unfold cv at h4
  exact_mod_cast h4
 have hz:=dc hE
 push_cast
 generalize (E:Rat)=e at *;have k1:=Rat.div_mul_cancel (a:=(X:Rat)) (b:=e*e) (by grind);have k2:=Rat.div_mul_cancel (a:=(Y:Rat)) (b:=e*e*e) (by grind);generalize (X:Rat) / (e*e)=x at *;generalize (Y:Rat) / (e*e*e)=y at *;rw [←k1,←k2] at h5;clear k1 k2
 have:(e*e*e*e*e*e)*(y*y)=(e*e*e*e*e*e)*(x*x*x+a*x+b):=by grind
 have KG:e*e*e*e*e*e≠0:=by grind
 grind
theorem xX {a b X Y E:Int} (h:aY a b X Y E=true) (hE:E≠0):i_.px (cW X Y E)=X/\i_.pz (cW X Y E)=E*E:=by
 obtain ⟨-,h2,h3,-⟩:=gj h hE;unfold cW;rw [if_neg hE]
 have hg:Int.gcd X (E*E)=1:=by
  unfold Int.gcd at *;rw [Int.natAbs_mul];exact Nat.Coprime.mul_right h3 h3
 have hp:0<E*E:=Int.mul_pos (by omega) (by omega);exact zj hp hg (Rat.div_mul_cancel (dc (by omega)))
theorem oc (X Y:Int):cW X Y 0=.O:=rfl
theorem BJ {a b:Int} {d x z:Int} (h0:d ∣ 4*aS a b) (hc:Int.gcd x z=1):Wh.Eu (aS a b) (d*x) (d*z)=d.natAbs:=by
 unfold Wh.Eu;rw [Nat.gcd_assoc]
 have e:Nat.gcd (d*x).natAbs (d*z).natAbs=d.natAbs:=by
  have:=Int.gcd_mul_left d x z;rw [hc,Nat.mul_one] at this;exact this
 rw [e];have:=Int.natAbs_dvd_natAbs.2 h0;rw [Int.natAbs_mul] at this;exact Nat.gcd_eq_right this
theorem O7 {a b:Int} {d x z:Int} (h0:d≠0) (h1:d ∣ 4*aS a b) (hc:Int.gcd x z=1) (hz:0<z) :
  Wh.GL (aS a b) (d*x) (d*z)=x/\Wh.GK (aS a b) (d*x) (d*z)=z:=by
 unfold Wh.GL Wh.GK;rw [BJ h1 hc]
 rcases Int.lt_or_le d 0 with hs | hs
 ·have hneg:d*z<0:=by
   have:=Int.mul_pos (a:=-d) (b:=z) (by omega) hz;rw [Int.neg_mul] at this;omega
  rw [if_pos hneg,if_pos hneg]
  have e:(d.natAbs:Int)=-d:=by omega
  rw [e]
  have:∀ t:Int,-(d*t / -d)=t:=fun t=>by
   rw [show d*t=-d*-t by grind,Int.mul_ediv_cancel_left _ (by omega)];omega
  exact ⟨this x,this z⟩
 have hpos:¬ d*z<0:=by
  have:=Int.mul_pos (a:=d) (b:=z) (by omega) hz;omega
 rw [if_neg hpos,if_neg hpos]
 have e:(d.natAbs:Int)=d:=by omega
 rw [e];exact ⟨Int.mul_ediv_cancel_left _ h0,Int.mul_ediv_cancel_left _ h0⟩
def pO (P:i_):Out->Prop
 | .val u v=>i_.px P=u/\i_.pz P=v
 | .inf=>P=.O
 | .bad=>True
theorem tH {P:i_} (h:i_.pz P=0):P=.O:=by
 cases P with
 | O=>rfl
 | fin x y=>
 have:=x.den_nz;have h:(x.den:Int)=0:=h;omega
theorem xm {a b:Int} (hd:aS a b≠0) {P:i_} (hP:i_.On a b P) {o:Out} (ho:pO P o):∀ n,pO (i_.DY a n P) (run a b n o)
 | 0=>ho
 | n+1=>by
  have ih:=xm hd hP ho n;have hon:=i_.dk (i_.cN hd) hP n
  show pO (i_.add a (i_.DY a n P) (i_.DY a n P)) (nx a b (run a b n o))
  generalize run a b n o=q at *;generalize i_.DY (a:Rat) n P=Q at *
  cases q with
  | bad=>trivial
  | inf=>
   have ih:Q=.O:=ih;rw [ih];rfl
  | val u v=>
  obtain ⟨rfl,rfl⟩:=(ih:i_.px Q=u/\i_.pz Q=v)
  obtain ⟨d,h1,h2,h3,h4⟩:=i_.pg hd hon;have hc:=i_.cop (i_.add (a:Rat) Q Q);have hn:=i_.xe (i_.add (a:Rat) Q Q);unfold nx
  dsimp only
  rw [h3,h4]
  split
  ·rename_i hz
   rcases Int.mul_eq_zero.1 hz with h | h
   ·exact absurd h h1
   exact tH h
  rename_i hz
  split
  ·have hp:0<i_.pz (i_.add (a:Rat) Q Q):=by
    rcases Int.lt_or_le 0 (i_.pz (i_.add (a:Rat) Q Q)) with h | h
    ·exact h
    exact absurd (show d*i_.pz (i_.add (a:Rat) Q Q)=0 by rw [show i_.pz (i_.add (a:Rat) Q Q)=0 by omega,Int.mul_zero]) hz
   obtain ⟨e1,e2⟩:=O7 h1 h2 hc hp;rw [e1,e2];exact ⟨rfl,rfl⟩
  trivial
theorem Be {a b X Y E:Int} (hd:aS a b≠0) (h:aY a b X Y E=true) (n:Nat):pO (i_.DY a n (cW X Y E)) (aZ a b X E n):=by
 unfold aZ
 split
 ·rename_i hE
  subst hE;rw [oc,i_.wH];rfl
 rename_i hE
 exact xm hd (eP h) (o:=.val X (E*E)) (xX h hE) n
def D_ (s:Nat->Int) (lo hi:Int):Prop:=∃ c:Int,∀ n,lo*4 ^ n - c<=4096*s n/\4096*s n<=hi*4 ^ n+c
theorem fT (n:Nat):(1:Int)<=4 ^ n:=by
 induction n with
 | zero=>decide
 | succ n ih=>rw [Int.pow_succ];omega
theorem Cp (n:Nat):(n:Int)<=4 ^ n:=by
 induction n with
 | zero=>decide
 | succ n ih=>rw [Int.pow_succ];have:=fT n;omega
theorem BN {x c:Int} (h:∀ n:Nat,x*4 ^ n<=c):x<=0:=by
 rcases Int.lt_or_le 0 x with hx | hx
 ·exfalso
  have h1:=h (c.toNat+1);have h2:=Cp (c.toNat+1);have h3:1*(4:Int) ^ (c.toNat+1)<=x*4 ^ (c.toNat+1):=Int.mul_le_mul_of_nonneg_right (by omega) (by have:=fT (c.toNat+1);omega);omega
 exact hx
theorem D_.meet {s t:Nat->Int} {l h l' h':Int} (k:D_ s l h) (k':D_ t l' h') (e:i_.Cl s t):l<=h':=by
 obtain ⟨c,k⟩:=k;obtain ⟨d,k'⟩:=k';obtain ⟨f,e⟩:=e
 have:=BN (x:=l - h') (c:=c+d+4096*f) fun n=>by
  have:=k n;have:=k' n;have:=e n;rw [Int.sub_mul];omega
 omega
theorem D_.valid {s:Nat->Int} {l h:Int} (k:D_ s l h):l<=h:=k.meet k (i_.Cl.refl s)
theorem D_.common {s:Nat->Int} {l h l' h':Int} (k:D_ s l h) (k':D_ s l' h'):D_ s (max l l') (min h h'):=by
 obtain ⟨c,k⟩:=k;obtain ⟨d,k'⟩:=k';refine ⟨max c d,fun n=>?_⟩;have:=k n;have:=k' n
 rcases Int.le_total l l' with h1 | h1 <;> rcases Int.le_total h h' with h2 | h2
 ·rw [Int.max_eq_right h1,Int.min_eq_left h2];omega
 ·rw [Int.max_eq_right h1,Int.min_eq_right h2];omega
 ·rw [Int.max_eq_left h1,Int.min_eq_left h2];omega
 rw [Int.max_eq_left h1,Int.min_eq_right h2];omega
theorem D_.cl {s t:Nat->Int} {l h:Int} (k:D_ s l h) (e:i_.Cl s t):D_ t l h:=by
 obtain ⟨c,k⟩:=k;obtain ⟨f,e⟩:=e;exact ⟨c+4096*f,fun n=>by have:=k n;have:=e n;omega⟩
theorem D_.add {s t:Nat->Int} {l h l' h':Int} (k:D_ s l h) (k':D_ t l' h'):D_ (fun n=>s n+t n) (l+l') (h+h'):=by
 obtain ⟨c,k⟩:=k;obtain ⟨d,k'⟩:=k';exact ⟨c+d,fun n=>by have:=k n;have:=k' n;rw [Int.add_mul,Int.add_mul];show _<=4096*(s n+t n)/\4096*(s n+t n)<=_;omega⟩
theorem D_.sub {s t:Nat->Int} {l h l' h':Int} (k:D_ s l h) (k':D_ t l' h'):D_ (fun n=>s n - t n) (l - h') (h - l'):=by
 obtain ⟨c,k⟩:=k;obtain ⟨d,k'⟩:=k';exact ⟨c+d,fun n=>by have:=k n;have:=k' n;rw [Int.sub_mul,Int.sub_mul];show _<=4096*(s n - t n)/\4096*(s n - t n)<=_;omega⟩
theorem D_.scale {s:Nat->Int} {l h:Int} (m:Nat) (k:D_ s l h):D_ (fun n=>(m:Int)*s n) (l*m) (h*m):=by
 obtain ⟨c,k⟩:=k;refine ⟨m*c,fun n=>?_⟩;have k:=k n
 have hm:(0:Int)<=m:=by omega
 have k1:=Int.mul_le_mul_of_nonneg_left k.1 hm;have k2:=Int.mul_le_mul_of_nonneg_left k.2 hm
 constructor
 ·calc l*m*4 ^ n - m*c=(m:Int)*(l*4 ^ n - c):=by grind
   _<=(m:Int)*(4096*s n):=k1
   _=4096*((m:Int)*s n):=by grind
 calc 4096*((m:Int)*s n)=(m:Int)*(4096*s n):=by grind
  _<=(m:Int)*(h*4 ^ n+c):=k2
  _=h*m*4 ^ n+m*c:=by grind
end M
namespace M
def HK (k:Nat) (s:Nat->Int) (lo hi:Int):Prop:=∃ c:Int,0<=c/\∀ n:Nat,lo*((4 ^ n) ^ k*4 ^ n) - c*(4 ^ n) ^ k<=4096*s n/\4096*s n<=hi*((4 ^ n) ^ k*4 ^ n)+c*(4 ^ n) ^ k
theorem rf (n k:Nat):(1:Int)<=(4 ^ n) ^ k:=by
 induction k with
 | zero=>exact Int.le_refl _
 | succ k ih=>
 rw [Int.pow_succ];have h:=fT n;exact Int.le_trans (by decide) (Int.mul_le_mul ih h (by decide) (by omega))
theorem HK.of {s:Nat->Int} {lo hi:Int} (h:D_ s lo hi):HK 0 s lo hi:=by
 obtain ⟨c,h⟩:=h;refine ⟨max c 0,by omega,fun n=>?_⟩;have:=h n;rw [Int.pow_zero,Int.one_mul,Int.mul_one];omega
theorem HK.zero (k:Nat):HK k (fun _=>0) 0 0:=⟨0,Int.le_refl _,fun n=>by simp⟩
theorem HK.add {k:Nat} {s t:Nat->Int} {l h l' h':Int} (p:HK k s l h) (q:HK k t l' h'):HK k (fun n=>s n+t n) (l+l') (h+h'):=by
 obtain ⟨c,c0,p⟩:=p;obtain ⟨d,d0,q⟩:=q;refine ⟨c+d,by omega,fun n=>?_⟩;have:=p n;have:=q n;rw [Int.add_mul,Int.add_mul,Int.add_mul]
 show _<=4096*(s n+t n)/\4096*(s n+t n)<=_
 omega
theorem HK.sub {k:Nat} {s t:Nat->Int} {l h l' h':Int} (p:HK k s l h) (q:HK k t l' h'):HK k (fun n=>s n - t n) (l - h') (h - l'):=by
 obtain ⟨c,c0,p⟩:=p;obtain ⟨d,d0,q⟩:=q;refine ⟨c+d,by omega,fun n=>?_⟩;have:=p n;have:=q n;rw [Int.sub_mul,Int.sub_mul,Int.add_mul]
 show _<=4096*(s n - t n)/\4096*(s n - t n)<=_
 omega
theorem xL {X lo hi e:Int} (h:lo<=hi) (he:0<=e) (h1:lo - e<=X) (h2:X<=hi+e):∃ x,lo<=x/\x<=hi/\-e<=X - x/\X - x<=e:=by
 by_cases c1:X<lo
 ·exact ⟨lo,by omega,h,by omega,by omega⟩
 by_cases c2:hi<X
 ·exact ⟨hi,h,by omega,by omega,by omega⟩
 exact ⟨X,by omega,by omega,by omega,by omega⟩
theorem rQ {x l h:Int} (y:Int) (h1:l<=x) (h2:x<=h):min (l*y) (h*y)<=x*y/\x*y<=max (l*y) (h*y):=by
 rcases Int.le_total 0 y with q | q
 ·have:=Int.mul_le_mul_of_nonneg_right h1 q
  have:=Int.mul_le_mul_of_nonneg_right h2 q;omega
 have:=Int.mul_le_mul_of_nonpos_right h1 q;have:=Int.mul_le_mul_of_nonpos_right h2 q;omega
theorem yk {x y a b c d:Int} (h1:a<=x) (h2:x<=b) (h3:c<=y) (h4:y<=d):cI a b c d<=x*y/\x*y<=cG a b c d:=by
 have q:=rQ y h1 h2;have p1:=rQ a h3 h4;have p2:=rQ b h3 h4;rw [Int.mul_comm c,Int.mul_comm d,Int.mul_comm y] at p1 p2;unfold cI cG;omega
theorem yL {a b c d A B:Int} (hA:0<=A) (hB:0<=B):cI a b c d*(A*B)<=cI (a*A) (b*A) (c*B) (d*B)/\cG (a*A) (b*A) (c*B) (d*B)<=cG a b c d*(A*B):=by
 have hAB:0<=A*B:=Int.mul_nonneg hA hB
 have e:∀ x y:Int,x*A*(y*B)=x*y*(A*B):=fun x y=>by grind
 unfold cI cG;rw [e,e,e,e]
 have m1:=fun z (h:min (a*c) (min (a*d) (min (b*c) (b*d)))<=z)=>Int.mul_le_mul_of_nonneg_right h hAB
 have m2:=fun z (h:z<=max (a*c) (max (a*d) (max (b*c) (b*d))))=>Int.mul_le_mul_of_nonneg_right h hAB
 have:=m1 (a*c) (by omega);have:=m1 (a*d) (by omega);have:=m1 (b*c) (by omega);have:=m1 (b*d) (by omega);have:=m2 (a*c) (by omega);have:=m2 (a*d) (by omega);have:=m2 (b*c) (by omega);have:=m2 (b*d) (by omega);omega
theorem vE {x l h:Int} (h1:l<=x) (h2:x<=h) {A:Int} (hA:0<=A) {a b:Int} (e1:l=a*A) (e2:h=b*A):-(((a.natAbs+b.natAbs:Nat):Int)*A)<=x/\x<=((a.natAbs+b.natAbs:Nat):Int)*A:=by
 have q1:-((a.natAbs+b.natAbs:Nat):Int)*A<=a*A:=Int.mul_le_mul_of_nonneg_right (by omega) hA;have q2:b*A<=((a.natAbs+b.natAbs:Nat):Int)*A:=Int.mul_le_mul_of_nonneg_right (by omega) hA;rw [Int.neg_mul] at q1;omega
theorem xK {s t a b c d e f Q P:Int} (hQ:1<=Q) (hP:1<=P) (hab:a<=b) (hcd:c<=d) (he:0<=e) (hf:0<=f) (h1:a*Q - e<=4096*s) (h2:4096*s<=b*Q+e) (h3:c*(P*Q) - f*P<=4096*t) (h4:4096*t<=d*(P*Q)+f*P) :
  ∃ C:Int,C=e*(((c.natAbs+d.natAbs:Nat):Int)+f)+((a.natAbs+b.natAbs:Nat):Int)*f/\cI a b c d / 4096*(P*Q*Q) - C*(P*Q)<=4096*(s*t)/\4096*(s*t)<=-(-cG a b c d / 4096)*(P*Q*Q)+C*(P*Q):=by
 refine ⟨_,rfl,?_⟩;have hPQ:1<=P*Q:=Int.le_trans (by decide) (Int.mul_le_mul hP hQ (by decide) (by omega))
 have H0:0<=P*Q:=by omega
 have hfP:0<=f*P:=Int.mul_nonneg hf (by omega);obtain ⟨x,x1,x2,x3,x4⟩:=xL (Int.mul_le_mul_of_nonneg_right hab (show 0<=Q by omega)) he h1 h2;obtain ⟨y,y1,y2,y3,y4⟩:=xL (Int.mul_le_mul_of_nonneg_right hcd H0) hfP h3 h4;obtain ⟨g1,g2⟩:=yk x1 x2 y1 y2;obtain ⟨k1,k2⟩:=yL (a:=a) (b:=b) (c:=c) (d:=d) (show 0<=Q by omega) H0;obtain ⟨b1,b2⟩:=vE x1 x2 (show 0<=Q by omega) rfl rfl;obtain ⟨b3,b4⟩:=vE y1 y2 H0 rfl rfl
 have hff:f*P<=f*(P*Q):=by
  refine Int.mul_le_mul_of_nonneg_left ?_ hf;have:=Int.mul_le_mul_of_nonneg_left hQ (show 0<=P by omega)
  rwa [Int.mul_one] at this
 generalize hu:((a.natAbs+b.natAbs:Nat):Int)=u at *;generalize hv:((c.natAbs+d.natAbs:Nat):Int)=v at *;have e1:=M.aH (x:=4096*s - x) (y:=4096*t) (m:=e) (n:=(v+f)*(P*Q)) x3 x4 (by rw [Int.add_mul];omega) (by rw [Int.add_mul];omega);have e2:=M.aH (x:=x) (y:=4096*t - y) (m:=u*Q) (n:=f*P) b1 b2 y3 y4
 have e3:4096*(4096*(s*t))=(4096*s - x)*(4096*t)+x*(4096*t - y)+x*y:=by grind
 have e4:(e*(v+f)+u*f)*(P*Q)=e*((v+f)*(P*Q))+u*Q*(f*P):=by grind
 have e5:Q*(P*Q)=P*Q*Q:=by grind
 rw [e5] at k1 k2;rw [e4];generalize x*(4096*t - y)=z2,(4096*s - x)*(4096*t)=z1,u*Q*(f*P)=E2,e*((v+f)*(P*Q))=E1 at *;have K3:0<=P*Q*Q:=Int.mul_nonneg H0 (by omega);generalize cG a b c d=T2,cI a b c d=T1 at *;have t1:4096*(T1 / 4096)*(P*Q*Q)<=T1*(P*Q*Q):=Int.mul_le_mul_of_nonneg_right (by omega) K3;have t2:T2*(P*Q*Q)<=4096*(-(-T2 / 4096))*(P*Q*Q):=Int.mul_le_mul_of_nonneg_right (by omega) K3;rw [Int.mul_assoc 4096 (T1 / 4096)] at t1;rw [Int.mul_assoc 4096 (-(-T2 / 4096))] at t2;generalize x*y=xy,s*t=st,T2*(P*Q*Q)=w4,T1*(P*Q*Q)=w3,-(-T2 / 4096)*(P*Q*Q)=w2,T1 / 4096*(P*Q*Q)=w1 at *;omega
theorem HK.valid {k:Nat} {s:Nat->Int} {l h:Int} (p:HK k s l h):l<=h:=by
 obtain ⟨c,c0,p⟩:=p
 have:=BN (x:=l - h) (c:=2*c) fun n=>by
  have q:=p n;have hp:=rf n k;generalize ((4:Int) ^ n) ^ k=P at *
  have e:(l - h)*4 ^ n*P<=2*c*P:=by
   have:(l - h)*4 ^ n*P=l*(P*4 ^ n) - h*(P*4 ^ n):=by grind
   rw [this,Int.mul_assoc];omega
  exact Int.le_of_mul_le_mul_right e (by omega)
 omega
theorem HK.mul {k:Nat} {s t:Nat->Int} {a b c d:Int} (p:D_ s a b) (q:HK k t c d):HK (k+1) (fun n=>s n*t n) (cI a b c d / 4096) (-(-cG a b c d / 4096)):=by
 have hab:=p.valid;have hcd:=q.valid;obtain ⟨e,e0,p⟩:=HK.of p;obtain ⟨f,f0,q⟩:=q;refine ⟨e*(((c.natAbs+d.natAbs:Nat):Int)+f)+((a.natAbs+b.natAbs:Nat):Int)*f,?_,fun n=>?_⟩
 ·have:=Int.mul_nonneg e0 (show 0<=((c.natAbs+d.natAbs:Nat):Int)+f by omega)
  have:=Int.mul_nonneg (show 0<=((a.natAbs+b.natAbs:Nat):Int) by omega) f0;omega
 have p1:=p n;rw [Int.pow_zero,Int.one_mul,Int.mul_one] at p1;obtain ⟨C,hC,r⟩:=xK (fT n) (rf n k) hab hcd e0 f0 p1.1 p1.2 (q n).1 (q n).2;rw [hC] at r;rw [Int.pow_succ];exact r
theorem HK.small {k:Nat} {s:Nat->Int} {l h c:Int} {x:Int} (hx:x≠0) (p:HK k s l h) (q:∀ n:Nat,-(c*(4 ^ n) ^ k)<=x*s n/\x*s n<=c*(4 ^ n) ^ k):l<=0:=by
 obtain ⟨d,d0,p⟩:=p
 refine BN (c:=4096*(c.natAbs:Int)+d) fun n=>?_
 have p1:=(p n).1;have q1:=q n;have hp:=rf n k;generalize ((4:Int) ^ n) ^ k=P at *;have hc:c*P<=(c.natAbs:Int)*P:=Int.mul_le_mul_of_nonneg_right (by omega) (by omega)
 have hs:s n<=(c.natAbs:Int)*P:=by
  rcases Int.lt_or_le 0 (s n) with h1 | h1
  ·rcases Int.lt_or_le 0 x with h2 | h2
   ·have:=Int.mul_le_mul_of_nonneg_right (show 1<=x by omega) (show 0<=s n by omega)
    omega
   have:=Int.mul_le_mul_of_nonneg_right (show x<=-1 by omega) (show 0<=s n by omega);omega
  have:=Int.mul_nonneg (show 0<=(c.natAbs:Int) by omega) (show 0<=P by omega);omega
 have e:l*4 ^ n*P<=(4096*(c.natAbs:Int)+d)*P:=by
  have e1:l*4 ^ n*P=l*(P*4 ^ n):=by grind
  rw [e1,Int.add_mul,Int.mul_assoc];omega
 exact Int.le_of_mul_le_mul_right e (by omega)
end M
end
end Go.Proofs.YtkalaljcbmkbmaaGreat
