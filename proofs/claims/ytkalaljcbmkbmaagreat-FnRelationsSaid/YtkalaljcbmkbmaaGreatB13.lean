/-
  Joined texts: contracts and plain lemmas.
-/
import Derived.Test.YtkalaljcbmkbmaaGreatB1
import Derived.Test.YtkalaljcbmkbmaaGreatB9
import Derived.Test.YtkalaljcbmkbmaaGreatB12
import Derived.Test.YtkalaljcbmkbmaaGreatB8
import Derived.Test.YtkalaljcbmkbmaaGreatB11
import Derived.Test.YtkalaljcbmkbmaaGreatB2
set_option linter.unusedSimpArgs false
set_option linter.unusedVariables false
set_option maxRecDepth 100000
set_option maxHeartbeats 8000000
namespace Go.Proofs.YtkalaljcbmkbmaaGreat
open Tryz
section
open Gr M Rg Rw Wh
namespace M
open Dt
def HM (m:JE) (T:Nat->Nat->Nat->Int):Prop:=∀ (i j:Nat) (r:List (Int × Int)) (p:Int × Int),m[i]?=some r->r[j]?=some p->Jl (fun n=>T n i j) p.1 p.2
theorem HM.minor {m:JE} {T:Nat->Nat->Nat->Int} (h:HM m T) (c:Nat) (hw:∀ r ∈ m,c<r.length):HM (bq m c) (fun n=>mn (T n) c):=by
 intro i j r p hr hp;unfold bq at hr;rw [List.getElem?_map] at hr;obtain ⟨s,hs,rfl⟩:=Option.map_eq_some_iff.1 hr;rw [List.getElem?_tail] at hs;have hc:=hw s (List.mem_of_getElem? hs);refine h (i+1) (skip c j) s p hs ?_;unfold skip;rw [List.getElem?_append,List.length_take,Nat.min_eq_left ω,List.getElem?_take,List.getElem?_drop] at hp
 split
 ·rename_i hj
  rw [if_pos hj,if_pos hj] at hp;exact hp
 rename_i hj
 rw [if_neg hj] at hp;rw [show j+1=c+1+(j - c) by omega];exact hp
theorem ux {l h:Int} {p:Int × Int} (e:mkS l h=some p):p=(l,h):=by
 unfold mkS at e
 split at e
 ·exact (Option.some.inj e).symm
 cases e
theorem AU:∀ (k:Nat) (m:JE) (T:Nat->Nat->Nat->Int) (p:Int × Int),m.length=k+1->(∀ r ∈ m,r.length=k+1)->HM m T->dN (k+1) m=some p->HK k (fun n=>JO (k+1) (T n)) p.1 p.2
 | 0,m,T,p,hl,hw,h,e=>by
  obtain ⟨r,rfl⟩:∃ r,m=[r]:=List.length_eq_one_iff.1 hl;have e:r.head?=some p:=e
  have hp:r[0]?=some p:=by rw [←List.head?_eq_getElem?];exact e
  have:=HK.of (h 0 0 r p rfl hp)
  have e2:(fun n=>T n 0 0)=(fun n=>JO 1 (T n)):=funext fun n=>by
   show T n 0 0=0+sg 0*(T n 0 0*1)
   rw [show sg 0=1 from rfl];omega
  rw [e2] at this;exact this
 | k+1,m,T,p,hl,hw,h,e=>by
  obtain ⟨r0,ms,rfl⟩:∃ r ms,m=r :: ms:=by
   cases m with
   | nil=>cases hl
   | cons r ms=>exact ⟨r,ms,rfl⟩
  have hr0:r0.length=k+2:=hw r0 (List.mem_cons_self)
  have part:∀ j,j<=k+2->∀ q,eJ k (r0 :: ms) j=some q->HK (k+1) (fun n=>Dt.sm j fun c=>sg c*(T n 0 c*JO (k+1) (mn (T n) c))) q.1 q.2:=by
   intro j
   induction j with
   | zero=>
    intro _ q hq;have:(0,0)=q:=Option.some.inj hq;subst this;exact HK.zero (k+1)
   | succ j ih=>
   intro hj q hq;rw [g5] at hq
   cases hs:eJ k (r0 :: ms) j with
   | none=>rw [hs,j9] at hq;cases hq
   | some s=>
   have I:=ih ω s hs;rw [hs] at hq
   have hx:∃ x,r0[j]?=some x:=⟨_,List.getElem?_eq_getElem ω⟩
   obtain ⟨x,hx⟩:=hx;have hh:((r0 :: ms).headD [])[j]?=some x:=hx;rw [hh] at hq
   cases hd:dN (k+1) (bq (r0 :: ms) j) with
   | none=>
    rw [hd] at hq;rw [show gF (some x) none=none from rfl,eB] at hq;cases hq
   | some d=>
   rw [hd] at hq
   have hwm:∀ r ∈ (r0 :: ms),j<r.length:=fun r hr=>by rw [hw r hr];omega
   have D:=AU k (bq (r0 :: ms) j) (fun n=>mn (T n) j) d (by
    unfold bq;rw [List.length_map,List.length_tail,hl]
    rfl) (fun r hr=>by
    obtain ⟨s,hs,rfl⟩:=List.mem_map.1 hr;have:=hw s (List.mem_of_mem_tail hs);rw [List.length_append,List.length_take,List.length_drop]
    omega) (h.minor j hwm) hd
   have X:=HK.mul (h 0 j r0 x rfl hx) D
   cases hmu:gF (some x) (some d) with
   | none=>rw [hmu,eB] at hq;cases hq
   | some y=>
   rw [hmu] at hq;have hy:=ux hmu;unfold fH at hq
   split at hq
   ·rename_i hc
    have hq':=ux hq;subst hq' hy
    have e2:(fun n=>(Dt.sm j fun c=>sg c*(T n 0 c*JO (k+1) (mn (T n) c)))+T n 0 j*JO (k+1) (mn (T n) j))=fun n=>Dt.sm (j+1) fun c=>sg c*(T n 0 c*JO (k+1) (mn (T n) c)):=funext fun n=>by
     show _=(Dt.sm j fun c=>sg c*(T n 0 c*JO (k+1) (mn (T n) c)))+sg j*(T n 0 j*JO (k+1) (mn (T n) j))
     rw [show sg j=1 from if_pos hc,Int.one_mul]
    have Y:HK (k+1) (fun n=>(Dt.sm j fun c=>sg c*(T n 0 c*JO (k+1) (mn (T n) c)))+T n 0 j*JO (k+1) (mn (T n) j)) _ _:=I.add X;rw [e2] at Y;exact Y
   rename_i hc
   have hq':=ux hq;subst hq' hy
   have e2:(fun n=>(Dt.sm j fun c=>sg c*(T n 0 c*JO (k+1) (mn (T n) c))) - T n 0 j*JO (k+1) (mn (T n) j))=fun n=>Dt.sm (j+1) fun c=>sg c*(T n 0 c*JO (k+1) (mn (T n) c)):=funext fun n=>by
    show _=(Dt.sm j fun c=>sg c*(T n 0 c*JO (k+1) (mn (T n) c)))+sg j*(T n 0 j*JO (k+1) (mn (T n) j))
    rw [show sg j=-1 from if_neg hc];omega
   have Y:HK (k+1) (fun n=>(Dt.sm j fun c=>sg c*(T n 0 c*JO (k+1) (mn (T n) c))) - T n 0 j*JO (k+1) (mn (T n) j)) _ _:=I.sub X;rw [e2] at Y;exact Y
  have e:eJ k (r0 :: ms) r0.length=some p:=e;rw [hr0] at e;exact part (k+2) (IY _) p e
end M
namespace M
open Dt
def Bd (k:Nat) (s:Nat->Int):Prop:=∃ C:Int,0<=C/\∀ n:Nat,-(C*(4 ^ n) ^ k)<=s n/\s n<=C*(4 ^ n) ^ k
theorem Bd.zero (k:Nat):Bd k (fun _=>0):=⟨0,Int.le_refl _,fun n=>σ⟩
theorem Bd.add {k:Nat} {s t:Nat->Int} (h:Bd k s) (h':Bd k t):Bd k (fun n=>s n+t n):=by
 obtain ⟨c,c0,h⟩:=h;obtain ⟨d,d0,h'⟩:=h';refine ⟨c+d,ω,fun n=>?_⟩;have:=h n;have:=h' n;rw [Int.add_mul]
 show _<=s n+t n/\s n+t n<=_
 omega
theorem Bd.mul {k l:Nat} {s t:Nat->Int} (h:Bd k s) (h':Bd l t):Bd (k+l) (fun n=>s n*t n):=by
 obtain ⟨c,c0,h⟩:=h;obtain ⟨d,d0,h'⟩:=h';refine ⟨c*d,Int.mul_nonneg c0 d0,fun n=>?_⟩;have h1:=h n;have h2:=h' n;have e:=aH h1.1 h1.2 h2.1 h2.2
 have q:c*(4 ^ n) ^ k*(d*(4 ^ n) ^ l)=c*d*(4 ^ n) ^ (k+l):=by
  rw [Int.pow_add]
  grind
 rw [q] at e;exact e
theorem Bd.sg {k:Nat} {s:Nat->Int} (c:Nat) (h:Bd k s):Bd k (fun n=>sg c*s n):=by
 obtain ⟨d,d0,h⟩:=h;refine ⟨d,d0,fun n=>?_⟩;have:=h n
 show -(d*(4 ^ n) ^ k)<=Dt.sg c*s n/\Dt.sg c*s n<=d*(4 ^ n) ^ k
 unfold Dt.sg
 split <;> omega
theorem Bd.sm {k:Nat} {f:Nat->Nat->Int}:∀ N,(∀ c,c<N->Bd k (fun n=>f n c))->Bd k (fun n=>Dt.sm N (f n))
 | 0,_=>Bd.zero k
 | N+1,h=>(Bd.sm N fun c hc=>h c ω).add (h N ω)
theorem AQ:∀ (k:Nat) (T:Nat->Nat->Nat->Int),(∀ i j,Bd 1 (fun n=>T n i j))->Bd k (fun n=>JO k (T n))
 | 0,_,_=>⟨1,δ,fun n=>by simp [JO]⟩
 | k
   + 1,T,h=>Bd.sm (k+1) fun c _=>Bd.sg c (by
   have:=(h 0 c).mul (AQ k (fun n=>mn (T n) c) fun i j=>h (i+1) (skip c j))
   rwa [Nat.add_comm] at this)
theorem EX (c q:Nat):skip c q≠c:=by
 unfold skip
 split <;> omega
theorem xT {c j q:Nat} (h:c≠j):skip c q=j ↔ q=un c j:=by
 unfold skip un
 split <;> split <;> omega
theorem AS:∀ (k:Nat) (T:Nat->Nat->Nat->Int) (j:Nat),j<k+1->(∀ i q,q≠j->Bd 1 (fun n=>T n i q))->(∀ i,Bd 0 (fun n=>T n i j))->Bd k (fun n=>JO (k+1) (T n))
 | 0,T,j,hj,_,h0=>by
  obtain rfl:j=0:=ω
  refine (show (fun n=>T n 0 0)=(fun n=>JO 1 (T n)) from funext fun n=>?_) ▸ h0 0;simp [JO,Dt.sm,Dt.sg]
 | k
   + 1,T,j,hj,h1,h0=>Bd.sm (k+2) fun c hc=>Bd.sg c (by
   by_cases e:c=j
   ·have:=(h0 0).mul (AQ (k+1) (fun n=>mn (T n) j) fun i q=>h1 (i+1) (skip j q) (EX j q))
    rw [Nat.zero_add] at this;rw [e];exact this
   have:=(h1 0 c e).mul (AS k (fun n=>mn (T n) c) (un c j) (FP hc hj e) (fun i q hq=>h1 (i+1) (skip c q) fun x=>hq ((xT e).1 x)) fun i=>by
    have:=h0 (i+1);rw [←(xT e).2 rfl] at this
    exact this)
   rwa [Nat.add_comm] at this)
theorem HK.kernel {k:Nat} {T:Nat->Nat->Nat->Int} {l h:Int} {v:Nat->Int} {j:Nat} (p:HK k (fun n=>JO (k+1) (T n)) l h) (hj:j<k+1) (hv:v j≠0) (h1:∀ i q,Bd 1 (fun n=>T n i q)) (h0:∀ i,Bd 0 (fun n=>Dt.sm (k+1) fun q=>v q*T n i q)):l<=0:=by
 obtain ⟨C,C0,b⟩:=AS k (fun n=>col (T n) j fun i=>Dt.sm (k+1) fun q=>v q*T n i q) j hj (fun i q hq=>by
  simp only [col,if_neg hq]
  exact h1 i q) (fun i=>by
  simp only [col,if_pos]
  exact h0 i)
 refine p.small (c:=C) hv fun n=>?_
 show -(C*(4 ^ n) ^ k)<=v j*JO (k+1) (T n)/\v j*JO (k+1) (T n)<=C*(4 ^ n) ^ k
 rw [Fu (k+1) (T n) j hj v];exact b n
end M
namespace M
def O3 (C:Int) (s:Nat->Int):Prop:=∀ n,1<=s n/\4*s n<=s (n+1)+C+3/\s (n+1)<=4*s n+C
theorem O3.lo {C:Int} {s:Nat->Int} (h:O3 C s) (n:Nat):∀ k:Nat,4 ^ k*(3*(s n - 1) - C)<=3*(s (n+k) - 1) - C
 | 0=>σ
 | k+1=>by
  have ih:=h.lo n k;have:=h (n+k);rw [Int.pow_succ,show n+(k+1)=n+k+1 by omega]
  have e:4 ^ k*4*(3*(s n - 1) - C)=4*(4 ^ k*(3*(s n - 1) - C)):=φ
  rw [e];generalize 4 ^ k*(3*(s n - 1) - C)=x at *;omega
theorem O3.hi {C:Int} {s:Nat->Int} (h:O3 C s) (n:Nat):∀ k:Nat,3*s (n+k)+C<=4 ^ k*(3*s n+C)
 | 0=>σ
 | k+1=>by
  have ih:=h.hi n k;have:=h (n+k);rw [Int.pow_succ,show n+(k+1)=n+k+1 by omega]
  have e:4 ^ k*4*(3*s n+C)=4*(4 ^ k*(3*s n+C)):=φ
  rw [e];generalize 4 ^ k*(3*s n+C)=x at *;omega
theorem O3.hld {C:Nat} {s:Nat->Int} (h:O3 C s) (n:Nat):Jl s (max 0 (3*(s n - 1) - C)*4096 / p4 n) (-(-((3*s n+C)*4096) / p4 n)):=by
 have hT:=gQ n
 have Tj:(0:Int)<p4 n:=by unfold p4;omega
 have l1:max 0 (3*(s n - 1) - C)*4096 / p4 n*p4 n<=max 0 (3*(s n - 1) - C)*4096:=Int.ediv_mul_le _ ω;have l2:-((3*s n+C)*4096) / p4 n*p4 n<=-((3*s n+C)*4096):=Int.ediv_mul_le _ ω;have l0:0<=max 0 (3*(s n - 1) - C)*4096 / p4 n:=Int.ediv_nonneg ω ω
 have l3:-((3*s n+C)*4096) / p4 n<=0:=by
  have:=(h n).1;have:=Int.ediv_le_ediv (c:=p4 n) Tj (show -((3*s n+C)*4096)<=0 by omega)
  simpa using this
 generalize hL:max 0 (3*(s n - 1) - C)*4096 / p4 n=L at *;generalize hH:-((3*s n+C)*4096) / p4 n=H at *;clear hL hH;unfold p4 at l1 l2;refine ⟨L*4 ^ n+4096*(3+2*C+3*s n),fun N=>?_⟩;have hs:=(h N).1;have hsn:=(h n).1
 rcases Nat.lt_or_ge N n with hN | hN
 ·obtain ⟨k,rfl⟩:∃ k,n=N+k:=⟨n - N,ω⟩
  have hk:=gQ k;have hP:=gQ N;have w:=h.lo N k;have e:(4:Int) ^ (N+k)=4 ^ N*4 ^ k:=Int.pow_add ..
  constructor
  ·have:L*4 ^ N<=L*4 ^ (N+k):=by
    rw [e];refine Int.mul_le_mul_of_nonneg_left ?_ l0;have:(4:Int) ^ N*1<=4 ^ N*4 ^ k:=Int.mul_le_mul_of_nonneg_left hk ω;omega
   omega
  have h1:3*(s N - 1) - C<=max 0 (3*(s (N+k) - 1) - C):=by
   rcases Int.lt_or_le 0 (3*(s N - 1) - C) with q | q
   ·have:1*(3*(s N - 1) - C)<=4 ^ k*(3*(s N - 1) - C):=Int.mul_le_mul_of_nonneg_right hk ω
    omega
   omega
  have h2:0<=-H*4 ^ N:=Int.mul_nonneg ω ω;have h3:0<=L*4 ^ (N+k):=Int.mul_nonneg l0 (by have:=gQ (N+k);omega);omega
 obtain ⟨k,rfl⟩:∃ k,N=n+k:=⟨N - n,ω⟩
 have hk:=gQ k;have w1:=h.lo n k;have w2:=h.hi n k;have e:(4:Int) ^ (n+k)=4 ^ n*4 ^ k:=Int.pow_add ..;have h0:0<=L*4 ^ n:=Int.mul_nonneg l0 ω
 constructor
 ·-- from below
  have h1:3*(L*4 ^ (n+k))<=3*(4096*s (n+k)):=by
   rw [e]
   have e2:3*(L*(4 ^ n*4 ^ k))=4 ^ k*(L*(3*4 ^ n)):=φ
   rw [e2];refine Int.le_trans (Int.mul_le_mul_of_nonneg_left l1 ω) ?_
   rcases Int.lt_or_le 0 (3*(s n - 1) - C) with q | q
   ·rw [Int.max_eq_right ω]
    have e3:4 ^ k*((3*(s n - 1) - (C:Int))*4096)=4096*(4 ^ k*(3*(s n - 1) - C)):=φ
    rw [e3];omega
   rw [Int.max_eq_left ω];simp
   omega
  omega
 have h1:3*(4096*s (n+k))<=3*(-H*4 ^ (n+k)):=by
  rw [e]
  have e2:3*(-H*(4 ^ n*4 ^ k))=4 ^ k*(-(H*(3*4 ^ n))):=φ
  rw [e2]
  have e3:3*(4096*s (n+k))<=4 ^ k*((3*s n+C)*4096):=by
   have e4:4 ^ k*((3*s n+(C:Int))*4096)=4096*(4 ^ k*(3*s n+C)):=φ
   rw [e4];omega
  exact Int.le_trans e3 (Int.mul_le_mul_of_nonneg_left ω ω)
 omega
theorem ul {a b:Int} (hd:aO a b≠0) {P:r_} (h:r_.On a b P):O3 (hC a b) (r_.hs a P):=fun n=>⟨r_.GG a P n,(r_.BE hd h n).1,(r_.BE hd h n).2⟩
theorem C9 {a:Int} {P:r_} {n:Nat} {u v:Int} (h:sI (r_.Iz a n P) (.val u v)):fB (.val u v)=r_.hs a P n:=by
 obtain ⟨h1,h2⟩:=(h:r_.px _=u/\r_.pz _=v)
 unfold r_.hs r_.hp hb hh;rw [h1,h2,←Fp]
 show max ((Wh.bl u.natAbs:Nat):Int) ((Wh.bl v.natAbs:Nat):Int)=_
 omega
theorem y8 {s:Nat->Int} (h:∃ c:Int,∀ n,0<=s n/\s n<=c):Jl s 0 0:=by
 obtain ⟨c,h⟩:=h;exact ⟨4096*c,fun n=>by have:=h n;omega⟩
theorem si {a:Rat} {P:r_} {n:Nat} (h:r_.Iz a n P=.O):∀ k,r_.Iz a (n+k) P=.O
 | 0=>h
 | k+1=>by
  show r_.add a (r_.Iz a (n+k) P) (r_.Iz a (n+k) P)=.O
  rw [si h k];rfl
theorem GF {a b:Int} (hd:aO a b≠0) {P:r_} (h:r_.On a b P) {n:Nat} (hO:r_.Iz a n P=.O):∃ c:Int,∀ k,0<=r_.hs a P k/\r_.hs a P k<=c:=by
 have W:=ul hd h
 have e1:r_.hs a P n=1:=by unfold r_.hs;rw [hO];decide
 refine ⟨2+hC a b,fun k=>⟨by have:=(W k).1;omega,?_⟩⟩
 rcases Nat.lt_or_ge k n with hk | hk
 ·obtain ⟨j,rfl⟩:∃ j,n=k+j:=⟨n - k,ω⟩
  have w:=W.lo k j;rw [e1] at w;have hj:=gQ j
  rcases Int.lt_or_le 0 (3*(r_.hs a P k - 1) - hC a b) with q | q
  ·have:1*(3*(r_.hs a P k - 1) - hC a b)<=4 ^ j*(3*(r_.hs a P k - 1) - hC a b):=Int.mul_le_mul_of_nonneg_right hj ω
   omega
  omega
 obtain ⟨j,rfl⟩:∃ j,k=n+j:=⟨k - n,ω⟩
 have:r_.hs a P (n+j)=1:=by unfold r_.hs;rw [si hO j];decide
 omega
theorem xE {a b X Y E:Int} (hd:aO a b≠0) (h:aP a b X Y E=true) (n:Nat) (ho:isOk (aX a b X E n)=true):Jl (r_.hs a (cg X Y E)) (hL (hC a b) n (aX a b X E n)) (hH (hC a b) n (aX a b X E n)):=by
 have hon:=dt h;have hi:=GU hd h n
 cases hq:aX a b X E n with
 | bad=>rw [hq] at ho;cases ho
 | inf=>
  rw [hq] at hi;exact y8 (GF hd hon hi)
 | val u v=>
 rw [hq] at hi;have:=(ul hd hon).hld n;rw [←C9 hi] at this;exact this
theorem pj {a b X E:Int}:∀ {n k:Nat},k<=n->isOk (aX a b X E n)=true->isOk (aX a b X E k)=true
 | 0,k,hk,h=>by
  obtain rfl:k=0:=ω
  exact h
 | n+1,k,hk,h=>by
  by_cases e:k=n+1
  ·exact e ▸ h
  refine pj (n:=n) ω ?_;unfold aX at *
  split
  ·rfl
  rename_i hE
  rw [if_neg hE] at h;have h:isOk (nx a b (run a b n (.val X (E*E))))=true:=h
  cases hr:run a b n (.val X (E*E)) with
  | bad=>rw [hr] at h;cases h
  | inf=>rfl
  | val u v=>rfl
theorem Ey {a b X Y E:Int} (hd:aO a b≠0) (h:aP a b X Y E=true):∀ n:Nat,isOk (aX a b X E n)=true->Jl (r_.hs a (cg X Y E)) (bL a b X E n) (bH a b X E n)
 | 0,ho=>xE hd h 0 ho
 | n+1,ho=>(Ey hd h n (pj (Nat.le_succ n) ho)).common (xE hd h (n+1) ho)
theorem zp {a b X E:Int}:∀ f k:Nat,isOk (aX a b X E k)=true->isOk (aX a b X E (MM a b X E f k))=true
 | 0,k,h=>h
 | f+1,k,h=>by
  unfold MM
  split
  ·rename_i h1
   exact zp f (k+1) h1
  exact h
theorem HP (a b X E:Int):isOk (aX a b X E (bN a b X E))=true:=by
 refine zp 5 0 ?_;unfold aX
 split <;> rfl
theorem fA {a b X Y E:Int} (hd:aO a b≠0) (h:aP a b X Y E=true):Jl (r_.hs a (cg X Y E)) (bL a b X E (bN a b X E)) (bH a b X E (bN a b X E)):=Ey hd h _ (HP a b X E)
end M
namespace M
theorem da {k x y:Rat} (hk:k≠0) (h:k*x=k*y):x=y:=by
 have:k*(x - y)=0:=φ
 rcases Rat.mul_eq_zero.1 this with h | h
 ·exact absurd h hk
 grind
theorem jV {X Y E:Int} (hE:E≠0):∃ x y:Rat,cg X Y E=.fin x y/\x*((E:Rat)*E)=X/\y*((E:Rat)*E*E)=Y:=by
 refine ⟨_,_,if_neg hE,?_,?_⟩
 ·push_cast
  exact Rat.div_mul_cancel (by have:=eS hE;grind)
 push_cast
 exact Rat.div_mul_cancel (by have:=eS hE;grind)
theorem tc {a b X Y E X' Y' E':Int} (h:aP a b X Y E=true) (h':aP a b X' Y' E'=true) (e:cg X Y E=cg X' Y' E'):X=X'/\Y=Y'/\E=E':=by
 by_cases hE:E=0
 ·by_cases hE':E'=0
  ·have h1:=rQ h hE
   have h2:=rQ h' hE';omega
  unfold cg at e;rw [if_pos hE,if_neg hE'] at e;cases e
 by_cases hE':E'=0
 ·unfold cg at e
  rw [if_neg hE,if_pos hE'] at e;cases e
 have h1:=rP h hE;have h2:=rP h' hE';rw [e] at h1;have p1:=(dn h hE).2.1;have p2:=(dn h' hE').2.1
 have eE:E=E':=by
  have h3:E*E=E'*E':=h1.2.symm.trans h2.2
  rcases Int.lt_or_le E E' with q | q
  ·have:=Int.mul_lt_mul q (Int.le_of_lt q) ω ω
   omega
  rcases Int.lt_or_le E' E with q' | q'
  ·have:=Int.mul_lt_mul q' (Int.le_of_lt q') ω ω
   omega
  omega
 subst eE;obtain ⟨x,y,k1,k2,k3⟩:=jV (X:=X) (Y:=Y) hE;obtain ⟨x',y',l1,l2,l3⟩:=jV (X:=X') (Y:=Y') hE;rw [k1,l1] at e
 injection e with e1 e2
 refine ⟨h1.1.symm.trans h2.1,?_,rfl⟩;rw [e2,l3] at k3
 exact_mod_cast k3.symm
theorem ID {x:Int} (h:(x:Rat)=0):x=0:=by exact_mod_cast h
theorem CW {a b X1 Y1 E1 X2 Y2 E2:Int} (h1:aP a b X1 Y1 E1=true) (h2:aP a b X2 Y2 E2=true) (e1:E1≠0) (e2:E2≠0) (h0:sD X1 Y1 E1 X2 Y2 E2≠0) {x1 y1 x2 y2:Rat}
  (k1:x1*((E1:Rat)*E1)=X1) (k2:y1*((E1:Rat)*E1*E1)=Y1) (k3:x2*((E2:Rat)*E2)=X2) (k4:y2*((E2:Rat)*E2*E2)=Y2)
  (o1:y1*y1=x1*x1*x1+a*x1+b) (o2:y2*y2=x2*x2*x2+a*x2+b) :
  ∃ l:Rat,r_.Slp a x1 y1 x2 y2 l/\l*(sD X1 Y1 E1 X2 Y2 E2:Int)=(sN a X1 Y1 E1 X2 Y2 E2:Int):=by
 have z1:=eS e1;have z2:=eS e2
 by_cases hc:X1=X2/\Y1=Y2/\E1=E2
 ·unfold sD at h0
  rw [if_pos hc] at h0
  have hy:y1≠0:=fun h=>by
   rw [h,Rat.zero_mul] at k2;have:=ID k2.symm;subst this;simp at h0
  unfold sD sN;rw [if_pos hc,if_pos hc];obtain ⟨rfl,rfl,rfl⟩:=hc;have ex:x1=x2:=da (k:=(E1:Rat)*E1) φ φ;have ey:y1=y2:=da (k:=(E1:Rat)*E1*E1) φ φ;subst ex ey;refine ⟨(3*x1*x1+a) / (2*y1),⟨φ,?_⟩,?_⟩
  ·have:=Rat.div_mul_cancel (a:=3*x1*x1+a) (b:=2*y1) φ
   grind
  have:=Rat.div_mul_cancel (a:=3*x1*x1+a) (b:=2*y1) φ;generalize (3*x1*x1+(a:Rat)) / (2*y1)=l at *
  push_cast
  rw [←k1,←k2];clear k1 k2 k3 k4 o1 o2;generalize (E1:Rat)=e at *
  have:l*(2*(y1*(e*e*e))*e)=(l*(2*y1))*(e*e*e*e):=φ
  grind
 unfold sD at h0;rw [if_neg hc] at h0;unfold sD sN;rw [if_neg hc,if_neg hc]
 have hx:x2 - x1≠0:=fun h=>by
  apply h0
  have:(X2*E1*E1 - X1*E2*E2:Int)=0:=by
   apply ID
   push_cast
   rw [←k1,←k3];clear k2 k4 o1 o2
   grind
  rw [this,Int.mul_zero]
 have hd:=Rat.div_mul_cancel (a:=y2 - y1) hx;refine ⟨(y2 - y1) / (x2 - x1),⟨φ,?_⟩,?_⟩
 ·generalize (y2 - y1) / (x2 - x1)=l at *
  refine da hx ?_
  have:(x2 - x1)*(l*(y1+y2))=(y2 - y1)*(y1+y2):=by rw [←hd];grind
  rw [this];clear this hd k1 k2 k3 k4
  grind
 generalize (y2 - y1) / (x2 - x1)=l at *
 push_cast
 rw [←k1,←k2,←k3,←k4];clear k1 k2 k3 k4 o1 o2;generalize (E1:Rat)=e at *;generalize (E2:Rat)=f at *
 have:l*(e*f*(x2*(f*f)*e*e - x1*(e*e)*f*f))=(l*(x2 - x1))*(e*e*e*f*f*f):=φ
 rw [this,hd]
 grind
theorem dk {a b:Int} (h:good a b=true):aO a b≠0:=by
 unfold good at h;rw [Bool.and_eq_true] at h
 simpa using h.2
theorem wj {a b X1 Y1 E1 X2 Y2 E2:Int} (hg:good a b=true) (h1:aP a b X1 Y1 E1=true) (h2:aP a b X2 Y2 E2=true) (e1:E1≠0) (e2:E2≠0) (h0:sD X1 Y1 E1 X2 Y2 E2≠0) :
  ∃ u v:Rat,r_.add a (cg X1 Y1 E1) (cg X2 Y2 E2)=.fin u v/\
   (∀ (x:Int) (e:Int),e≠0->(u*((e:Rat)*e)=x ↔ bot (JY a X1 Y1 E1 X2 Y2 E2) E1 E2*x=top (Jj a X1 Y1 E1 X2 Y2 E2) (JY a X1 Y1 E1 X2 Y2 E2) X1 E1 X2 E2*(e*e)))/\
   ∀ (x y e:Int),e≠0->u*((e:Rat)*e)=x->e*gw (Jj a X1 Y1 E1 X2 Y2 E2) (JY a X1 Y1 E1 X2 Y2 E2) X1 Y1 E1 x e=JY a X1 Y1 E1 X2 Y2 E2*E1*E1*E1*y->v*((e:Rat)*e*e)=y:=by
 obtain ⟨x1,y1,k0,k1,k2⟩:=jV (X:=X1) (Y:=Y1) e1;obtain ⟨x2,y2,k3,k4,k5⟩:=jV (X:=X2) (Y:=Y2) e2;have o1:=dt h1;have o2:=dt h2;rw [k0] at o1 ⊢;rw [k3] at o2 ⊢;obtain ⟨l,hl,hn⟩:=CW h1 h2 e1 e2 h0 k1 k2 k4 k5 o1 o2;obtain ⟨hs,hd0,-⟩:=xU (a:=a) h0
 have hln:l*(JY a X1 Y1 E1 X2 Y2 E2:Int)=(Jj a X1 Y1 E1 X2 Y2 E2:Int):=by
  refine da (k:=(sD X1 Y1 E1 X2 Y2 E2:Rat)) (eS h0) ?_
  have:((Jj a X1 Y1 E1 X2 Y2 E2*sD X1 Y1 E1 X2 Y2 E2:Int):Rat)=((JY a X1 Y1 E1 X2 Y2 E2*sN a X1 Y1 E1 X2 Y2 E2:Int):Rat):=by rw [hs]
  push_cast at this
  rw [←hn] at this
  grind
 have hm:=eS (E:=JY a X1 Y1 E1 X2 Y2 E2) ω;generalize JY a X1 Y1 E1 X2 Y2 E2=m,Jj a X1 Y1 E1 X2 Y2 E2=n at *;refine ⟨_,_,r_.dP (r_.dA (dk hg)) o1 o2 hl,fun x e he=>?_,fun x y e he hx hy=>?_⟩
 ·have hxr:(bot m E1 E2*x=top n m X1 E1 X2 E2*(e*e)) ↔ ((m:Rat)*m*(E1*E1*E2*E2)*x=((n:Rat)*n*(E1*E1*E2*E2) - m*m*(X1*E2*E2+X2*E1*E1))*(e*e)):=by
   unfold bot top
   constructor
   ·intro h
    exact_mod_cast h
   intro h
   exact_mod_cast h
  rw [hxr,←k1,←k4,←hln];have z1:=eS e1;have z2:=eS e2;have z3:=eS he;clear k0 k1 k2 k3 k4 k5 o1 o2 hn hln hxr hl;generalize (E1:Rat)=e1 at *;generalize (E2:Rat)=e2 at *;generalize (e:Rat)=e at *;generalize (m:Rat)=m at *;generalize (x:Rat)=x at *
  have e0:(l*m*(l*m)*(e1*e1*e2*e2) - m*m*(x1*(e1*e1)*e2*e2+x2*(e2*e2)*e1*e1))*(e*e)=(m*m*(e1*e1*e2*e2))*((l*l - x1 - x2)*(e*e)):=φ
  rw [e0]
  constructor
  ·intro h
   rw [h]
  intro h;exact (da (k:=m*m*(e1*e1*e2*e2)) φ h).symm
 have Tr:((e:Rat)*(n*(X1*e*e - x*E1*E1)*E1 - Y1*m*e*e))=m*E1*E1*E1*y:=by
  unfold gw at hy
  exact_mod_cast hy
 rw [←k1,←k2,←hln,←hx] at Tr;have z1:=eS e1;have z3:=eS he;clear k0 k1 k2 k3 k4 k5 o1 o2 hn hln hl hx hy;generalize (E1:Rat)=e1 at *;generalize (e:Rat)=e at *;generalize (m:Rat)=m at *;generalize (y:Rat)=y at *;refine da (k:=m*e1*e1*e1) φ ?_;rw [←Tr];generalize l*l - x1 - x2=u
 grind
theorem jJ {a b X1 Y1 E1 X2 Y2 E2:Int} (hg:good a b=true) (h1:aP a b X1 Y1 E1=true) (h2:aP a b X2 Y2 E2=true) (hk:bB a X1 Y1 E1 X2 Y2 E2=true) :
  cg (cK a X1 Y1 E1 X2 Y2 E2) (dC a X1 Y1 E1 X2 Y2 E2) (cJ a X1 Y1 E1 X2 Y2 E2)=r_.add a (cg X1 Y1 E1) (cg X2 Y2 E2):=by
 unfold bB at hk;unfold cK dC cJ
 by_cases e1:E1=0
 ·subst e1
  rw [if_pos rfl,if_pos rfl,if_pos rfl];rfl
 rw [if_neg e1] at hk;rw [if_neg e1,if_neg e1,if_neg e1]
 by_cases e2:E2=0
 ·subst e2
  rw [if_pos rfl,if_pos rfl,if_pos rfl];exact (r_.ij _ _).symm
 rw [if_neg e2] at hk;rw [if_neg e2,if_neg e2,if_neg e2];obtain ⟨p1,p2,p3,p4⟩:=dn h1 e1;obtain ⟨r1,r2,r3,r4⟩:=dn h2 e2
 by_cases h0:sD X1 Y1 E1 X2 Y2 E2=0
 ·obtain ⟨q1,q2,q3⟩:=(xA p4 r4 p2.1 r2.1 p3 r3).1 h0
  unfold LF LZ KY;rw [if_pos h0,if_pos h0,if_pos h0];subst q1 q2 q3;unfold cg;rw [if_pos rfl,if_neg e1,if_neg e1]
  symm
  refine r_.cV ⟨rfl,?_⟩
  push_cast
  rw [Rat.div_def,Rat.div_def,Rat.neg_mul]
 obtain ⟨u,v,k1,k2,k3⟩:=wj hg h1 h2 e1 e2 h0;obtain ⟨-,-,H⟩:=mT (n:=Jj a X1 Y1 E1 X2 Y2 E2) (m:=JY a X1 Y1 E1 X2 Y2 E2) p4 r4 p1.2 r1.2 p2.1 p2.2 r2.1 r2.2 h0 (Or.inl ⟨rfl,rfl⟩);obtain ⟨c1,c2,c3,c4,c5,c6,c7,c8,-⟩:=H hk _ _ _ rfl rfl rfl
 have hE:KY a X1 Y1 E1 X2 Y2 E2≠0:=ω
 have hu:=(k2 _ _ hE).2 c6;have hv:=k3 _ _ _ hE hu c7;rw [k1];obtain ⟨x,y,l1,l2,l3⟩:=jV (X:=LF a X1 Y1 E1 X2 Y2 E2) (Y:=LZ a X1 Y1 E1 X2 Y2 E2) hE;have z:=eS hE;rw [l1]
 congr 1
 ·exact da (k:=(KY a X1 Y1 E1 X2 Y2 E2:Rat)*KY a X1 Y1 E1 X2 Y2 E2) φ φ
 exact da (k:=(KY a X1 Y1 E1 X2 Y2 E2:Rat)*KY a X1 Y1 E1 X2 Y2 E2*KY a X1 Y1 E1 X2 Y2 E2) φ φ
theorem Fh {a b X1 Y1 E1 X2 Y2 E2 X Y E:Int} (hg:good a b=true) (h1:aP a b X1 Y1 E1=true) (h2:aP a b X2 Y2 E2=true) (h3:aP a b X Y E=true) (hs:r_.add a (cg X1 Y1 E1) (cg X2 Y2 E2)=cg X Y E) :
  bB a X1 Y1 E1 X2 Y2 E2=true/\cK a X1 Y1 E1 X2 Y2 E2=X/\dC a X1 Y1 E1 X2 Y2 E2=Y/\cJ a X1 Y1 E1 X2 Y2 E2=E:=by
 have hin:=aY hg
 have key:bB a X1 Y1 E1 X2 Y2 E2=true:=by
  unfold bB
  by_cases e1:E1=0
  ·rw [if_pos e1]
  rw [if_neg e1]
  by_cases e2:E2=0
  ·rw [if_pos e2]
  rw [if_neg e2]
  by_cases h0:sD X1 Y1 E1 X2 Y2 E2=0
  ·unfold jY
   rw [if_pos h0]
  obtain ⟨p1,p2,p3,p4⟩:=dn h1 e1;obtain ⟨r1,r2,r3,r4⟩:=dn h2 e2;obtain ⟨u,v,k1,k2,k3⟩:=wj hg h1 h2 e1 e2 h0;obtain ⟨-,H,-⟩:=mT (n:=Jj a X1 Y1 E1 X2 Y2 E2) (m:=JY a X1 Y1 E1 X2 Y2 E2) p4 r4 p1.2 r1.2 p2.1 p2.2 r2.1 r2.2 h0 (Or.inl ⟨rfl,rfl⟩);rw [k1] at hs
  by_cases hE:E=0
  ·subst hE
   cases hs
  obtain ⟨q1,q2,q3,q4⟩:=dn h3 hE;obtain ⟨x,y,l1,l2,l3⟩:=jV (X:=X) (Y:=Y) hE;rw [l1] at hs
  injection hs with s1 s2
  rw [←s1] at l2;exact (H X E q2.1 q2.2 q1.1 q1.2 q3 ((k2 X E hE).1 l2)).1
 refine ⟨key,?_⟩;exact tc (ie hin h1 h2) h3 ((jJ hg h1 h2 key).trans hs)
theorem kW (X Y E:Int):cg X (-Y) E=r_.neg (cg X Y E):=by
 unfold cg
 split
 ·rfl
 show r_.fin _ _=r_.fin _ _
 congr 1
 push_cast
 rw [Rat.div_def,Rat.div_def,Rat.neg_mul]
theorem dp {a b X Y E:Int} (h:aP a b X Y E=true):aP a b X (-Y) E=true:=by
 unfold aP at *
 split
 ·rename_i hE
  rw [if_pos hE] at h;simp only [Bool.and_eq_true,decide_eq_true_eq] at *;omega
 rename_i hE
 rw [if_neg hE] at h;simp only [Bool.and_eq_true,decide_eq_true_eq] at *;exact ⟨h.1,by rw [show -Y*-Y=Y*Y by grind];exact h.2⟩
end M
end
section
open Go.RowKit open Gr M Rg Rw Wh
namespace M
theorem uY {X E:Int} (hX1:-10000<=X) (hX2:X<=10000) (hE1:0<=E) (hE2:E<=20):fB (.val X (E*E))<=14:=by
 have h1:Wh.bl X.natAbs<=14:=sS ω
 have R_:0<=E*E/\E*E<=400:=⟨Int.mul_nonneg hE1 hE1,by have:=Int.mul_le_mul hE2 hE2 hE1 ω;omega⟩
 have h2:Wh.bl (E*E).natAbs<=14:=sS ω
 show max ((Wh.bl X.natAbs:Nat):Int) ((Wh.bl (E*E).natAbs:Nat):Int)<=14
 omega
theorem jp {a b X Y E:Int} (hg:good a b=true) (h:aP a b X Y E=true) (k:Nat):0<=bL a b X E k/\bH a b X E k<=150000:=by
 have hin:=aY hg;obtain ⟨x1,x2,e1,e2,-⟩:=eP hin h;have hm:=uW (a:=a) (b:=b) (X:=X) (E:=E) (k:=0) k (Nat.zero_le _);have hCb:=pg hin;have hb:=uY x1 x2 e1 e2
 have h0:0<=bL a b X E 0/\bH a b X E 0<=150000:=by
  show 0<=hL (hC a b) 0 (aX a b X E 0)/\hH (hC a b) 0 (aX a b X E 0)<=150000
  unfold aX
  split
  ·exact ⟨Int.le_refl _,by show (0:Int)<=150000;decide⟩
  show 0<=max 0 (3*(fB (.val X (E*E)) - 1) - (hC a b:Int))*4096 / p4 0/\-(-((3*fB (.val X (E*E))+(hC a b:Int))*4096) / p4 0)<=150000
  have e:p4 0=3:=rfl;rw [e];omega
 omega
theorem fo {a b X Y E:Int} (hg:good a b=true) (h:aP a b X Y E=true):bW a b X E=some (bL a b X E (bN a b X E),bH a b X E (bN a b X E)):=by
 have hs:=jp hg h (bN a b X E);have hv:=(fA (dk hg) h).valid;unfold bW Jm
 have:aJ (bL a b X E (bN a b X E)) (bH a b X E (bN a b X E))=true:=by
  unfold aJ;simp only [Bool.and_eq_true,decide_eq_true_eq];omega
 rw [if_pos this]
structure HB (a b X Y E l h:Int):Prop where
 is:bW a b X E=some (l,h)
 lo:0<=l
 hi:h<=150000
 le:l<=h
 hld:Jl (r_.hs a (cg X Y E)) l h
theorem HB.ex {a b X Y E:Int} (hg:good a b=true) (h:aP a b X Y E=true):∃ l u,HB a b X Y E l u/\l=bL a b X E (bN a b X E)/\u=bH a b X E (bN a b X E):=
 ⟨_,_,⟨fo hg h,(jp hg h _).1,(jp hg h _).2,(fA (dk hg) h).valid,fA (dk hg) h⟩,rfl,rfl⟩
end M
end
section
open Gr M Rg Rw Wh
namespace M
theorem uy {l h:Int} {p:Int × Int} (e:mkS l h=some p):p=(l,h):=by
 unfold mkS at e
 split at e
 ·exact (Option.some.inj e).symm
 cases e
theorem tX {a b X1 Y1 E1 X2 Y2 E2:Int} {p:Int × Int} (hg:good a b=true) (h1:aP a b X1 Y1 E1=true) (h2:aP a b X2 Y2 E2=true) (e:d7 a b X1 Y1 E1 X2 Y2 E2=some p):Jl (r_.pr a (cg X1 Y1 E1) (cg X2 Y2 E2)) p.1 p.2:=by
 unfold d7 at e
 split at e
 ·rename_i hk
  have hs:=ie (aY hg) h1 h2;have hd:=dk hg;rw [fo hg hs,fo hg h1,fo hg h2] at e;have H:=((fA hd hs).sub (fA hd h1)).sub (fA hd h2);rw [jJ hg h1 h2 hk] at H;generalize bH a b (cK a X1 Y1 E1 X2 Y2 E2) (cJ a X1 Y1 E1 X2 Y2 E2) (bN a b (cK a X1 Y1 E1 X2 Y2 E2) (cJ a X1 Y1 E1 X2 Y2 E2))=u0,bL a b (cK a X1 Y1 E1 X2 Y2 E2) (cJ a X1 Y1 E1 X2 Y2 E2) (bN a b (cK a X1 Y1 E1 X2 Y2 E2) (cJ a X1 Y1 E1 X2 Y2 E2))=l0 at *
  cases hq:dK (some (l0,u0)) (some (bL a b X1 E1 (bN a b X1 E1),bH a b X1 E1 (bN a b X1 E1))) with
  | none=>rw [hq] at e;cases e
  | some q=>
  rw [hq] at e;have q1:=uy hq;have q2:=uy e;subst q2 q1;exact H
 cases e
theorem CS {a b X Y E:Int} {p:Int × Int} (hg:good a b=true) (h:aP a b X Y E=true) (e:fP a b X E=some p):Jl (r_.pr a (cg X Y E) (cg X Y E)) p.1 p.2:=by
 have hd:=dk hg;unfold fP at e;rw [fo hg h] at e;have q:=uy e;subst q;have H:=(fA hd h).add (fA hd h);refine H.cl ((r_.Cl.of fun n=>?_).trans (r_.D4 hd (dt h)).symm);omega
theorem Bd.neg {k:Nat} {s:Nat->Int} (h:Bd k s):Bd k (fun n=>-s n):=by
 obtain ⟨c,c0,h⟩:=h;refine ⟨c,c0,fun n=>?_⟩;have:=h n
 show -(c*(4 ^ n) ^ k)<=-s n/\-s n<=c*(4 ^ n) ^ k
 omega
theorem BD {a b:Int} (hd:aO a b≠0) {P:r_} (h:r_.On a b P):Bd 1 (r_.hs a P):=by
 have W:=ul hd h;refine ⟨3*r_.hs a P 0+(hC a b:Nat),by have:=(W 0).1;omega,fun n=>?_⟩;have q:=W.hi 0 n;rw [Nat.zero_add,Int.mul_comm (4 ^ n)] at q;have:=(W n).1;rw [Int.pow_succ,Int.pow_zero,Int.one_mul];omega
theorem H0 {a b:Int} (hd:aO a b≠0) {P Q:r_} (h1:r_.On a b P) (h2:r_.On a b Q):Bd 1 (r_.pr a P Q):=
 ((BD hd (r_.dM (r_.dA hd) h1 h2)).add (BD hd h1).neg).add (BD hd h2).neg
theorem Bd.cl {f:Nat->Int} {c:Int} (h:r_.Cl f (fun _=>c)):Bd 0 f:=by
 obtain ⟨d,h⟩:=h;refine ⟨((c.natAbs+d.natAbs:Nat):Int),ω,fun n=>?_⟩;have:-d<=f n - c/\f n - c<=d:=h n;rw [Int.pow_zero,Int.mul_one];omega
end M
namespace M
open r_
def Od (a:Int) (P:Nat->r_) (v:Nat->Int):Nat->r_
 | 0=>.O
 | n+1=>r_.add a (Od a P v n) (uP a (v n) (P n))
theorem uc {a b:Int} (hd:aO a b≠0) {P:Nat->r_} (h:∀ i,On a b (P i)) (v:Nat->Int):∀ n,On a b (Od a P v n)
 | 0=>trivial
 | n+1=>dM (dA hd) (uc hd h v n) (r_.xg (dA hd) (h n) _)
theorem Br {a b:Int} (hd:aO a b≠0) {P:Nat->r_} (h:∀ i,On a b (P i)) (v:Nat->Int) {R:r_} (hR:On a b R):∀ N,Cl (pr a (Od a P v N) R) (fun n=>Dt.sm N fun q=>v q*pr a (P q) R n)
 | 0=>⟨1,fun n=>by
  have:=D2 a R n
  show -1<=pr a .O R n - 0/\pr a .O R n - 0<=1
  omega⟩
 | N+1=>(vI hd (uc hd h v N) (r_.xg (dA hd) (h N) _) hR).trans ((Br hd h v hR N).add (D5 hd (h N) hR (v N)))
theorem GM {a b:Int} (hd:aO a b≠0) {P:Nat->r_} (h:∀ i,On a b (P i)) {v:Nat->Int} {R:r_} (hR:On a b R) {N m:Nat} (hm:m≠0) (h0:r_.mul a m (Od a P v N)=.O):Bd 0 (fun n=>Dt.sm N fun q=>v q*pr a (P q) R n):=
 Bd.cl (c:=0) ((Br hd h v hR N).symm.trans (GZ hd (uc hd h v N) hR hm h0))
theorem EL {a b:Int} (hd:aO a b≠0) {P:Nat->r_} (h:∀ i,On a b (P i)) {v:Nat->Int} {k j m:Nat} (hm:m≠0) (h0:r_.mul a m (Od a P v (k+1))=.O) (hj:j<k+1) (hv:v j≠0) {l u:Int} (p:HK k (fun n=>Dt.JO (k+1) fun i q=>pr a (P q) (P i) n) l u):l<=0:=
 HK.kernel (T:=fun n i q=>pr a (P q) (P i) n) p hj hv (fun i q=>H0 hd (h q) (h i)) fun i=>GM hd h (h i) hm h0
end M
namespace M
namespace r_
def Xk (x:Int):Nat->Int
 | 0=>x
 | k+1=>Xk x k*Xk x k*Xk x k*Xk x k
def Yk (x:Int):Nat->Int
 | 0=>1
 | k+1=>4*Yk x k*(Xk x k*Xk x k*Xk x k)
theorem Ew (x:Int):∀ k:Nat,x*Yk x k=4 ^ k*Xk x k
 | 0=>by show x*1=4 ^ 0*x;omega
 | k+1=>by
  have ih:=Ew x k
  show x*(4*Yk x k*(Xk x k*Xk x k*Xk x k))=4 ^ (k+1)*(Xk x k*Xk x k*Xk x k*Xk x k)
  rw [Int.pow_succ];generalize (4:Int) ^ k=p at *
  grind
theorem zS {x z:Int} (h:Int.gcd x z=1):∀ k,Int.gcd (Xk x k) z=1
 | 0=>h
 | k+1=>by
  have ih:=zS h k
  show Int.gcd (Xk x k*Xk x k*Xk x k*Xk x k) z=1
  unfold Int.gcd at *;rw [Int.natAbs_mul,Int.natAbs_mul,Int.natAbs_mul];exact Nat.Coprime.mul_left (Nat.Coprime.mul_left (Nat.Coprime.mul_left ih ih) ih) ih
theorem Gs (a b X z s W:Int):∃ s',ai a b (X+z*z*s) (z*W)=X*X*X*X+z*z*s':=by
 unfold ai;refine ⟨4*X*X*X*s+6*X*X*z*z*s*s+4*X*z*z*z*z*s*s*s+z*z*z*z*z*z*s*s*s*s - 2*a*(X+z*z*s)*(X+z*z*s)*W*W - 8*b*(X+z*z*s)*z*W*W*W+a*a*z*z*W*W*W*W,?_⟩
 grind
theorem Fq (a b X Y z s t:Int):∃ t',ae a b (X+z*z*s) (z*(Y+z*z*t))=z*(4*Y*(X*X*X)+z*z*t'):=by
 obtain ⟨U,hU⟩:∃ U,U=X+z*z*s:=⟨_,rfl⟩
 obtain ⟨W,hW⟩:∃ W,W=Y+z*z*t:=⟨_,rfl⟩
 have hc:∃ c,U*U*U=X*X*X+z*z*c:=⟨3*X*X*s+3*X*z*z*s*s+z*z*z*z*s*s*s,by rw [hU];grind⟩
 obtain ⟨c,hc⟩:=hc;rw [←hU,←hW];refine ⟨4*(t*(U*U*U)+Y*c+W*(a*U*W*W+b*z*W*W*W)),?_⟩
 have e:ae a b U (z*W)=4*z*W*(U*U*U)+4*z*W*(a*U*(z*W)*(z*W)+b*(z*W)*(z*W)*(z*W)):=by unfold ae;grind
 have e2:4*z*W*(U*U*U)=4*z*(Y+z*z*t)*(U*U*U):=by rw [hW]
 have e3:Y*(U*U*U)=Y*(X*X*X)+z*z*(Y*c):=by rw [hc];grind
 clear hU hW hc;generalize U*U*U=u3 at *
 have e4:4*z*(Y+z*z*t)*u3=4*z*(Y*u3)+4*z*(z*z)*t*u3:=φ
 rw [e,e2,e4,e3];clear e e2 e3 e4
 grind
theorem wJ {a b:Int} (hd:aO a b≠0) {P:r_} (h:On a b P):∀ k,∃ D s t:Int,D≠0/\D*px (Iz a k P)=Xk (px P) k+pz P*pz P*s/\D*pz (Iz a k P)=pz P*(Yk (px P) k+pz P*pz P*t)
 | 0=>⟨1,0,0,δ,by show 1*px P=px P+_;grind,by show 1*pz P=pz P*(1+_);grind⟩
 | k+1=>by
  obtain ⟨D,s,t,hD,h1,h2⟩:=wJ hd h k;obtain ⟨d,hd0,-,e1,e2⟩:=sd hd (el (dA hd) h k)
  show ∃ D s t:Int,D≠0/\D*px (add a (Iz a k P) (Iz a k P))=Xk (px P) k*Xk (px P) k*Xk (px P) k*Xk (px P) k+_/\D*pz (add a (Iz a k P) (Iz a k P))=pz P*(4*Yk (px P) k*(Xk (px P) k*Xk (px P) k*Xk (px P) k)+_)
  generalize pz P=z,Yk (px P) k=Y,Xk (px P) k=X,pz (Iz a k P)=q,px (Iz a k P)=p,pz (add a (Iz a k P) (Iz a k P))=q',px (add a (Iz a k P) (Iz a k P))=p' at *;obtain ⟨s',hs⟩:=Gs a b X z s (Y+z*z*t);obtain ⟨t',ht⟩:=Fq a b X Y z s t;rw [←h1,←h2] at hs ht
  have f1:ai a b (D*p) (D*q)=D*D*D*D*ai a b p q:=by unfold ai;grind
  have f2:ae a b (D*p) (D*q)=D*D*D*D*ae a b p q:=by unfold ae;grind
  rw [f1,e1] at hs;rw [f2,e2] at ht;refine ⟨D*D*D*D*d,s',t',Int.mul_ne_zero (Int.mul_ne_zero (Int.mul_ne_zero (Int.mul_ne_zero hD hD) hD) hD) hd0,?_,?_⟩
  ·exact (Int.mul_assoc _ _ _).trans hs
  exact (Int.mul_assoc _ _ _).trans ht
theorem zu {a b:Int} (hd:aO a b≠0) {P:r_} (h:On a b P) (hz:pz P≠0) {k:Nat} (h1:px (Iz a k P)=px P) (h2:pz (Iz a k P)=pz P):pz P*pz P ∣ 4 ^ k - 1:=by
 obtain ⟨D,s,t,hD,e1,e2⟩:=wJ hd h k;rw [h1] at e1;rw [h2] at e2;have hc:=zS (cop P) k;have hxy:=Ew (px P) k;generalize pz P=z,px P=x,Yk (px P) k=Y,Xk (px P) k=X at *;generalize (4:Int) ^ k=p at *;have hDY:D=Y+z*z*t:=Int.eq_of_mul_eq_mul_left hz (by rw [←e2];grind)
 have hdv:z*z ∣ X*(p - 1):=⟨s - t*x,by
  have:x*D=4*0+p*X+z*z*t*x:=by rw [hDY,Int.mul_add,hxy];grind
  grind⟩
 have hcc:Int.gcd (z*z) X=1:=by
  rw [Int.gcd_comm];unfold Int.gcd at *;rw [Int.natAbs_mul];exact Nat.Coprime.mul_right hc hc
 have g1:(z*z).natAbs ∣ X.natAbs*(p - 1).natAbs:=by
  rw [←Int.natAbs_mul];exact Int.natAbs_dvd_natAbs.2 hdv
 exact Int.natAbs_dvd_natAbs.1 (Nat.Coprime.dvd_of_dvd_mul_left hcc g1)
theorem A8 {a b:Int} (hd:aO a b≠0) {P:r_} (h:On a b P) (hz:pz P≠0) (h1:pz (add a P P)=0∨pz (add a P P)=1):pz P=1:=by
 obtain ⟨d,hd0,-,e1,e2⟩:=sd hd h;have hc:=cop P;have hnn:=CG P
 have fin:pz P ∣ 1->pz P=1:=fun h=>by
  have:=Int.le_of_dvd δ h;omega
 have hcx:∀ n,Int.gcd (px P*n) (pz P)=1->True:=fun _ _=>trivial
 have hx3:pz P ∣ px P*px P*px P->pz P ∣ 1:=fun h=>by
  have g:(pz P).natAbs ∣ (px P).natAbs*(px P).natAbs*(px P).natAbs:=by
   rw [←Int.natAbs_mul,←Int.natAbs_mul];exact Int.natAbs_dvd_natAbs.2 h
  have cc:Nat.Coprime (pz P).natAbs (px P).natAbs:=Nat.Coprime.symm hc;have g2:=Nat.Coprime.dvd_of_dvd_mul_right cc (Nat.Coprime.dvd_of_dvd_mul_right cc g)
  exact Int.natAbs_dvd_natAbs.1 (by
   have:=Nat.dvd_gcd g2 (Nat.dvd_refl _);unfold Int.gcd at hc;rw [hc] at this
   exact this)
 have hx4:pz P ∣ px P*px P*px P*px P->pz P ∣ 1:=fun h=>by
  refine hx3 ?_
  have g:(pz P).natAbs ∣ (px P*px P*px P).natAbs*(px P).natAbs:=by
   rw [←Int.natAbs_mul];exact Int.natAbs_dvd_natAbs.2 h
  have cc:Nat.Coprime (pz P).natAbs (px P).natAbs:=Nat.Coprime.symm hc;exact Int.natAbs_dvd_natAbs.1 (Nat.Coprime.dvd_of_dvd_mul_right cc g)
 refine fin ?_;generalize pz P=z,px P=x at *
 rcases h1 with h1 | h1
 ·rw [h1,Int.mul_zero] at e2
  unfold ae at e2
  rcases Int.mul_eq_zero.1 e2 with h | h
  ·exact absurd (by omega:z=0) hz
  exact hx3 ⟨-(a*x*z+b*z*z),φ⟩
 rw [h1,Int.mul_one] at e2;refine hx4 ⟨4*(x*x*x+a*x*z*z+b*z*z*z)*px (add a P P)+2*a*x*x*z+8*b*x*z*z - a*a*z*z*z,?_⟩
 have:ai a b x z=ae a b x z*px (add a P P):=by rw [e1,e2]
 unfold ai ae at this
 grind
theorem IR {a b x y:Int} (h:y*y=x*x*x+a*x+b) {d m:Int} (e1:ai a b x 1=d*m) (e2:ae a b x 1=d):y*y ∣ aO a b:=by
 have hg:ae a b x 1=4*(y*y):=by unfold ae;rw [h];grind
 have hf:ai a b x 1=(3*x*x+a)*(3*x*x+a) - 8*x*(y*y):=by unfold ai;rw [h];grind
 have hk:(3*x*x+a)*(3*x*x+a)=y*y*(4*m+8*x):=by
  have:(3*x*x+a)*(3*x*x+a)=4*(y*y)*m+8*x*(y*y):=by rw [←hg,e2,←e1,hf];omega
  rw [this];grind
 refine ⟨(3*x*x+4*a)*(4*m+8*x) - 27*(x*x*x+a*x - b),?_⟩
 have hid:aO a b=(3*x*x+4*a)*((3*x*x+a)*(3*x*x+a)) - 27*(x*x*x+a*x - b)*(x*x*x+a*x+b):=by unfold aO;grind
 rw [hid,hk,←h]
 grind
theorem f9 {a b:Rat} (hd:4*a*a*a+27*b*b≠0) {P:r_} (h:On a b P) (m:Nat):∀ n,mul a (m+n) P=add a (mul a m P) (mul a n P)
 | 0=>(ij a _).symm
 | n+1=>by
  show add a (mul a (m+n) P) P=add a (mul a m P) (add a (mul a n P) P)
  rw [f9 hd h m n,add_assoc hd (j6 hd h m) (j6 hd h n) h]
theorem rC {a b:Rat} (hd:4*a*a*a+27*b*b≠0) {P:r_} (h:On a b P):∀ n,mul a n (add a P P)=mul a (n+n) P
 | 0=>rfl
 | n+1=>by
  show add a (mul a n (add a P P)) (add a P P)=_
  rw [rC hd h n,show n+1+(n+1)=(n+n)+2 from ω,f9 hd h (n+n) 2];rfl
theorem wK {a b:Rat} (hd:4*a*a*a+27*b*b≠0) {P:r_} (h:On a b P):∀ k,Iz a k P=mul a (2 ^ k) P
 | 0=>rfl
 | k+1=>by
  show add a (Iz a k P) (Iz a k P)=_
  rw [wK hd h k,←f9 hd h,Nat.pow_succ,Nat.mul_two]
theorem GJ {a b:Rat} (hd:4*a*a*a+27*b*b≠0) {P Q:r_} (h1:On a b P) (h2:On a b Q) (h:add a P Q=O):P=neg Q:=by
 have h3:=qU hd h2 h1;rw [add_comm hd h2 h1,h,ij] at h3;exact h3.symm
theorem tQ {a b:Rat} (hd:4*a*a*a+27*b*b≠0) {P:r_} (h:On a b P) {m:Nat} (hm:mul a m P=O):∀ n,mul a (m*n) P=O
 | 0=>rfl
 | n+1=>by rw [Nat.mul_succ,f9 hd h,tQ hd h hm n,hm];rfl
theorem EF {a b:Int} {P:r_} (h:On a b P) (hz:pz P≠0):∃ d:Int,pz P*pz P*pz P=d*d:=by
 cases P with
 | O=>exact absurd rfl hz
 | fin x y=>
 have hx:=rU x;have hy:=rU y;have cx:Int.gcd x.num x.den=1:=x.reduced;have cy:Int.gcd y.num y.den=1:=y.reduced
 have dx:(0:Int)<x.den:=by have:=x.den_pos;omega
 have dy:(0:Int)<y.den:=by have:=y.den_pos;omega
 have hq:(y.num:Rat)*y.num*((x.den:Int):Rat)*((x.den:Int):Rat)*((x.den:Int):Rat)=((x.num:Rat)*x.num*x.num+a*x.num*((x.den:Int):Rat)*((x.den:Int):Rat)+b*((x.den:Int):Rat)*((x.den:Int):Rat)*((x.den:Int):Rat))*((y.den:Int):Rat)*((y.den:Int):Rat):=by
  have ho:y*y=x*x*x+a*x+b:=h;rw [←hx,←hy];generalize ((x.den:Int):Rat)=z at *;generalize ((y.den:Int):Rat)=d at *
  have:y*d*(y*d)*z*z*z=(y*y)*d*d*z*z*z:=φ
  rw [this,ho]
  grind
 show ∃ d:Int,(x.den:Int)*x.den*x.den=d*d
 refine ⟨y.den,?_⟩
 have hi:y.num*y.num*(x.den:Int)*(x.den:Int)*(x.den:Int)=(x.num*x.num*x.num+a*x.num*(x.den:Int)*(x.den:Int)+b*(x.den:Int)*(x.den:Int)*(x.den:Int))*(y.den:Int)*(y.den:Int):=by exact_mod_cast hq
 clear hq hx hy h;generalize (x.den:Int)=z at *;generalize (y.den:Int)=d at *;generalize y.num=n,x.num=u at *
 have hN:Int.gcd (u*u*u+a*u*z*z+b*z*z*z) z=1:=by
  have e:u*u*u+a*u*z*z+b*z*z*z=u*u*u+(a*u*z+b*z*z)*z:=φ
  rw [e,Int.gcd_add_mul_right_left];unfold Int.gcd at *;rw [Int.natAbs_mul,Int.natAbs_mul];exact Nat.Coprime.mul_left (Nat.Coprime.mul_left cx cx) cx
 generalize u*u*u+a*u*z*z+b*z*z*z=N at *
 have c1:Nat.Coprime (z*z*z).natAbs N.natAbs:=by
  rw [Int.natAbs_mul,Int.natAbs_mul];have:Nat.Coprime z.natAbs N.natAbs:=Nat.Coprime.symm hN;exact Nat.Coprime.mul_left (Nat.Coprime.mul_left this this) this
 have c2:Nat.Coprime (d*d).natAbs (n*n).natAbs:=by
  rw [Int.natAbs_mul,Int.natAbs_mul];have:Nat.Coprime d.natAbs n.natAbs:=Nat.Coprime.symm cy;exact Nat.Coprime.mul_left (Nat.Coprime.mul_right this this) (Nat.Coprime.mul_right this this)
 have d1:(z*z*z).natAbs ∣ (d*d).natAbs:=by
  refine Nat.Coprime.dvd_of_dvd_mul_left c1 ?_;rw [←Int.natAbs_mul];exact Int.natAbs_dvd_natAbs.2 ⟨n*n,by rw [←Int.mul_assoc,←hi];grind⟩
 have d2:(d*d).natAbs ∣ (z*z*z).natAbs:=by
  refine Nat.Coprime.dvd_of_dvd_mul_left c2 ?_;rw [←Int.natAbs_mul]
  have e1:n*n*(z*z*z)=n*n*z*z*z:=φ
  exact Int.natAbs_dvd_natAbs.2 ⟨N,by rw [e1,hi];grind⟩
 have e:=Nat.dvd_antisymm d1 d2;have p1:0<=z*z*z:=Int.mul_nonneg (Int.mul_nonneg ω ω) ω;have p2:0<=d*d:=Int.mul_nonneg ω ω;omega
theorem Cc {z N:Int} (hz:0<z) (h:z*z ∣ N) (hN:0<N) (SE:N<=1023):∃ m:Nat,m<32/\z=m/\m*m ∣ N.toNat:=by
 obtain ⟨m,rfl⟩:=Int.eq_ofNat_of_zero_le (Int.le_of_lt hz);obtain ⟨M,rfl⟩:=Int.eq_ofNat_of_zero_le (Int.le_of_lt hN)
 have hd:m*m ∣ M:=by exact_mod_cast h
 refine ⟨m,?_,rfl,by simpa using hd⟩;have hle:=Nat.le_of_dvd ω hd
 rcases Nat.lt_or_ge m 32 with q | q
 ·exact q
 have:=Nat.mul_le_mul q q;omega
theorem Ds {a b:Int} (hd:aO a b≠0) {P:r_} (h:On a b P) (hz:pz P≠0) {k m:Nat} (hk:k=1∨k=2∨k=3∨k=5) (hm:mul a m P=O) (hs:2 ^ k+1=m∨2 ^ k=m+1):pz P=1:=by
 have hdb:Iz (a:Rat) k P=P∨Iz (a:Rat) k P=neg P:=by
  rw [wK (dA hd) h]
  rcases hs with hs | hs
  ·refine Or.inr (GJ (dA hd) (j6 (dA hd) h _) h ?_)
   have:=f9 (dA hd) h (2 ^ k) 1;rw [hs,hm] at this;exact this.symm
  refine Or.inl ?_;rw [hs,f9 (dA hd) h m 1,hm];rfl
 have hx:px (Iz (a:Rat) k P)=px P/\pz (Iz (a:Rat) k P)=pz P:=by
  rcases hdb with e | e <;> rw [e]
  ·exact ⟨rfl,rfl⟩
  exact ⟨Ge P,Gf P⟩
 have hdv:=zu hd h hz hx.1 hx.2;have hnn:=CG P;obtain ⟨d,hcu⟩:=EF h hz
 have h3:pz P≠3:=fun e=>by
  rw [e] at hcu
  have h1:d*d=27:=ω
  rcases Int.lt_or_le d 6 with q | q
  ·rcases Int.lt_or_le (-6) d with q2 | q2
   ·have:=aH (x:=d) (y:=d) (m:=5) (n:=5)
    omega
   have:=Int.mul_le_mul (show 6<=-d by omega) (show 6<=-d by omega) δ ω;rw [Int.neg_mul_neg] at this;omega
  have:=Int.mul_le_mul q q δ ω;omega
 generalize pz P=z at *
 have key:∀ N:Nat,0<N->N<=1023->z*z ∣ (N:Int)->(∀ m:Nat,m<32->m*m ∣ N->m=1∨m=3∨m=0)->z=1:=fun N h1 h2 h4 h5=>by
  obtain ⟨m,hm,rfl,hd⟩:=Cc ω h4 ω ω
  rcases h5 m hm (by simpa using hd) with e | e | e <;> omega
 rcases hk with rfl | rfl | rfl | rfl
 ·exact key 3 δ δ hdv δ
 ·exact key 15 δ δ hdv δ
 ·exact key 63 δ δ hdv δ
 exact key 1023 δ δ hdv δ
theorem FH {P:r_} (h:P≠O):pz P≠0:=fun h0=>h (xK h0)
theorem xd {a b:Int} (hd:aO a b≠0):∀ n:Nat,1<=n->n<=12->∀ P:r_,On a b P->mul a n P=O->P=O∨pz P=1:=by
 have half:∀ m:Nat,(∀ P:r_,On a b P->mul a m P=O->P=O∨pz P=1)->∀ P:r_,On a b P->mul a (m+m) P=O->P=O∨pz P=1:=fun m ih P h hm=>by
  by_cases hO:P=O
  ·exact Or.inl hO
  refine Or.inr (A8 hd h (FH hO) ?_);rw [←rC (dA hd) h] at hm
  rcases ih _ (dM (dA hd) h h) hm with e | e
  ·rw [e];exact Or.inl rfl
  exact Or.inr e
 have odd:∀ k m:Nat,(k=1∨k=2∨k=3∨k=5)->(2 ^ k+1=m∨2 ^ k=m+1)->∀ P:r_,On a b P->mul a m P=O->P=O∨pz P=1:=fun k m hk hs P h hm=>by
  by_cases hO:P=O
  ·exact Or.inl hO
  exact Or.inr (Ds hd h (FH hO) hk hm hs)
 have h1:∀ P:r_,On a b P->mul a 1 P=O->P=O∨pz P=1:=fun P _ h=>Or.inl h
 have h2:=half 1 h1;have h3:=odd 1 3 δ δ;have h4:=half 2 h2;have h5:=odd 2 5 δ δ;have h6:=half 3 h3;have h7:=odd 3 7 δ δ;have h8:=half 4 h4;have h9:=odd 3 9 δ δ;have h10:=half 5 h5
 have h11:∀ P:r_,On a b P->mul a 11 P=O->P=O∨pz P=1:=fun P h hm=>odd 5 33 δ δ P h (tQ (dA hd) h hm 3)
 have h12:=half 6 h6;intro n hn1 hn2
 match n,hn1,hn2 with
 | 1,_,_=>exact h1
 | 2,_,_=>exact h2
 | 3,_,_=>exact h3
 | 4,_,_=>exact h4
 | 5,_,_=>exact h5
 | 6,_,_=>exact h6
 | 7,_,_=>exact h7
 | 8,_,_=>exact h8
 | 9,_,_=>exact h9
 | 10,_,_=>exact h10
 | 11,_,_=>exact h11
 | 12,_,_=>exact h12
end r_
end M
end
section
open Go.RowKit open Gr M Rg Rw Wh
namespace M
noncomputable def eI (a b X Y E:Int):Bool:=good a b && aP a b X Y E
theorem gP {a b X Y E:Int} (h:eI a b X Y E=true):good a b=true/\aP a b X Y E=true:=by
 unfold eI at h
 rwa [Bool.and_eq_true] at h
end M
theorem aG.ou {W:World} {g:Nat} {T:TypeId} {u v x:Value} (h:aG W g T #[u,v,x]) (a b c:Value):aG (((W.setCell ⟨g,0,none⟩ a).setCell ⟨g,1,none⟩ b).setCell ⟨g,2,none⟩ c) g T #[a,b,c]:=((h.set 0 a).set 1 b).set 2 c
theorem aG.bJ {W:World} {g:Nat} {T:TypeId} {u v x:Value} (h:aG W g T #[u,v,x]):W.cell? ⟨g,0,none⟩=some u/\W.cell? ⟨g,1,none⟩=some v/\W.cell? ⟨g,2,none⟩=some x/\W.frozen? ⟨g,0,none⟩=false/\W.frozen? ⟨g,1,none⟩=false/\W.frozen? ⟨g,2,none⟩=false:=⟨h.cell 0,h.cell 1,h.cell 2,h.Ih 0,h.Ih 1,h.Ih 2⟩
end
section
open Gr M Rg Rw Wh
namespace M
theorem HB.one {a b X Y E l h l' h':Int} (p:HB a b X Y E l h) (q:HB a b X Y E l' h'):l=l'/\h=h':=by
 have:=p.is.symm.trans q.is
 injection this with e
 injection e with e1 e2
 exact ⟨e1,e2⟩
end M
end
section
open Go Go.RowKit open M Rg
namespace Rg
variable {P:Program} {Q:Exit->Act->World->Prop}
section
variable (P) (Q) (ops:Array Oper) (a0:Act) (T:List Value) (J:Nat->World->Prop) (C:List Nat)
def vg (o:Oper) (a:Act) (t:Nat):Prop:=
 match o.after.toList.find? (fun e=>Region.binds .any e && ((ops[e.on]?).bind (·.dst)) == some t) with
 | some e=>if e.on ∈ C then True else a.tmps[t]?=some (T.getD e.on undef)
 | none=>a.tmps[t]?=a0.tmps[t]?
def bw (k:Nat) (o:Oper):Prop:=
 if k ∈ C then ∀ (a:Act) (w:World),J (C.idxOf k) w->(∀ t ∈ o.looksAt ops,vg ops a0 T C o a t)->Region.wanted o (yielded ops a.tmps)=true/\o.wp P a w (fun a' w'=>(∃ v,a'=a.put o.dst v)/\J (C.idxOf k+1) w') Q
 else ∀ (a:Act) (w:World) (n:Nat),n<=C.length->J n w->(∀ t ∈ o.looksAt ops,vg ops a0 T C o a t)->Region.wanted o (yielded ops a.tmps)=true/\(execOp a.eval o).run P w=.ok (.value (T.getD k undef)) w
def zI:List Oper->Nat->Prop
 | [],_=>True
 | o :: os,k=>bw P Q ops a0 T J C k o/\zI os (k+1)
def HA (l:Nat->Bool) (vals:Nat->Value) (w:World):Prop:=
 J (cnt l C) w/\∀ i,i ∉ C->l i=true->vals i=T.getD i undef
end
theorem ju {l:Nat->Bool}:∀ C:List Nat,cnt l C<=C.length
 | []=>IY _
 | c :: cs=>by
  unfold cnt;have:=ju (l:=l) cs
  split
  ·simp only [List.length_cons];omega
  omega
theorem CM {ops:Array Oper} {a0:Act} {T:List Value} {J:Nat->World->Prop} {C:List Nat} (hC:eK ops C=true) :
  ∀ (os:List Oper) (k:Nat),(∀ i,os[i]?=ops[k+i]?)->zI P Q ops a0 T J C os k->ic P Q .any ops (HA T J C) a0 os k
 | [],_,_,_=>trivial
 | o :: os,k,hos,h=>by
  refine ⟨fun a w l vals hI hl hc JQ hr=>?_,CM hC os (k+1) (fun i=>by rw [show k+1+i=k+(i+1) by omega,←hos (i+1)];rfl) h.2⟩;obtain ⟨hB,hv⟩:=hI;have ho:ops[k]?=some o:=(hos 0).symm
  have hQ:∀ t ∈ o.looksAt ops,vg ops a0 T C o a t:=fun t ht=>by
   have:=hr t ht;unfold rd at this;unfold vg
   split
   ·rename_i e he
    rw [he] at this;have h2:=List.find?_some he;rw [Bool.and_eq_true] at h2
    split
    ·trivial
    rename_i n1
    replace this:a.tmps[t]?=some (vals e.on):=this;rw [this,hv _ n1 (JQ e (Array.mem_toList_iff.1 (List.mem_of_find?_eq_some he)) h2.1)]
   rename_i he
   rw [he] at this;exact this
  have hko:∀ j,j≠k->upd l k j=l j:=fun j hj=>if_neg hj
  have h1:=h.1;unfold bw at h1;unfold nF
  have rest:∀ v,(k ∉ C->v=T.getD k undef)->∀ i,i ∉ C->upd l k i=true->cr vals k v i=T.getD i undef:=fun v hvk i n1 hi=>by
   by_cases hik:i=k
   ·subst hik
    have:cr vals i v i=v:=if_pos rfl;rw [this];exact hvk n1
   rw [hko i hik] at hi;have:cr vals k v i=vals i:=if_neg hik;rw [this];exact hv i n1 hi
  by_cases e3:k ∈ C
  ·rw [if_pos e3] at h1
   obtain ⟨q1,q2⟩:=kE hc hl (fun c hcd=>fz ho JQ hcd) C hC e3;rw [q1] at hB;obtain ⟨hw,hwp⟩:=h1 a w hB hQ;rw [if_pos hw];refine Oper.wp_mono ?_ hwp;rintro a' w' ⟨⟨v,e⟩,h2⟩;exact ⟨v,e,by rw [q2];exact h2,rest v (fun h=>absurd e3 h)⟩
  rw [if_neg e3] at h1;obtain ⟨hw,hwp⟩:=h1 a w _ (ju C) hB hQ;rw [if_pos hw];unfold Oper.wp;rw [hwp];exact ⟨_,rfl,by rw [iH C e3];exact hB,rest _ (fun _=>rfl)⟩
theorem FV {id:Nat} {ops:Array Oper} {a0:Act} {w:World} (J:Nat->World->Prop) (C:List Nat) (T:List Value)
  (hm:P.follows .mixedOrders=true) (hok:d6 .any ops a0.tmps.size=true) (hC:eK ops C=true) (hcl:∀ c ∈ C,c<ops.size) (h0:J 0 { w with drawn:=w.drawn+1 })
  (hR:zI P Q ops a0 T J C ops.toList 0)
  (hF:∀ (vals:Nat->Value) (w':World),J C.length w'->(∀ i,i<ops.size->i ∉ C->vals i=T.getD i undef)->Q .normal (fill (fun _=>true) vals ops.toList 0 a0) w'):(Code.region id ops true).wp P Q a0 w:=by
 have c0:∀ C:List Nat,cnt (fun _=>false) C=0:=fun C=>by cases C <;> rfl
 have cl:∀ (l:Nat->Bool) (C:List Nat),(∀ c ∈ C,l c=true)->cnt l C=C.length:=fun l C=>by
  induction C with
  | nil=>intro _;rfl
  | cons c cs ih=>
  intro h;unfold cnt;rw [if_pos (h c (List.mem_cons_self ..)),ih (fun x hx=>h x (List.mem_cons_of_mem _ hx))];rfl
 refine kZ (HA T J C) hm hok (fun vals=>⟨?_,(fun _ _ h=>absurd h σ)⟩) (CM hC ops.toList 0 (fun i=>by rw [Nat.zero_add];exact Array.getElem?_toList) hR) ?_
 ·rw [c0]
  exact h0
 intro l vals w' hl hI;obtain ⟨h1,h2⟩:=hI;rw [cl l C (fun c hc=>hl c (hcl c hc))] at h1;exact hF vals w' h1 (fun i hi n1=>h2 i n1 (hl i hi))
end Rg
end
section
open Go Go.RowKit open Gr M Rg Rw Wh
namespace Rg
variable {P:Program} {Q:Exit->Act->World->Prop}
section
variable (P) (Q) (ops:Array Oper) (a0:Act) (T:List Val) (w1:World) (ka ks:Nat) (Tn:TypeId) (xs ys:Array Value)
def ak (k:Nat) (o:Oper):Prop:=
 if k=ka then ∀ (a:Act) (w:World),Region.wanted o (yielded ops a.tmps)=true/\o.wp P a w (fun a' w'=>a'=a.put o.dst (.pointer (some ⟨w,0,none⟩))/\w'=w.alloc (.cells xs Tn)) Q
 else if k=ks then ∀ (a:Act) (w:World) (h:Nat),w1.heap.size<=h->aG w h Tn xs->(∀ t ∈ o.looksAt ops,vf ops a0 T ka ks h o a w t)->Region.wanted o (yielded ops a.tmps)=true/\o.wp P a w (fun a' w'=>(∃ v,a'=a.put o.dst v)/\aG w' h Tn ys/\Below w1 w w') Q
 else ∀ (a:Act) (w:World),Below w1 w1 w->(∀ t ∈ o.looksAt ops,mr ops a0 T ka ks o a w t)->Does P ops Q (JP T k) o a w
def zD:List Oper->Nat->Prop
 | [],_=>True
 | o :: os,k=>ak P Q ops a0 T w1 ka ks Tn xs ys k o/\zD os (k+1)
def FZ (l:Nat->Bool) (vals:Nat->Value) (w:World):Prop:=
 Below w1 w1 w/\(∀ i,i≠ka->i≠ks->l i=true->(JP T i).ok (vals i) w)/\(l ka=true->∃ h,w1.heap.size<=h/\vals ka=.pointer (some ⟨h,0,none⟩)/\aG w h Tn (if l ks=true then ys else xs))
end
theorem CK {ops:Array Oper} {a0:Act} {T:List Val} {w1:World} {ka ks:Nat} {Tn:TypeId} {xs ys:Array Value}
  (hp:∀ j,j≠ka->j≠ks->(JP T j).pure=true) (hne:ka≠ks) (hE:gY ops ka ks=true) :
  ∀ (os:List Oper) (k:Nat),(∀ i,os[i]?=ops[k+i]?)->zD P Q ops a0 T w1 ka ks Tn xs ys os k->ic P Q .any ops (FZ T w1 ka ks Tn xs ys) a0 os k
 | [],_,_,_=>trivial
 | o :: os,k,hos,h=>by
  refine ⟨fun a w l vals hI hl hc JQ hr=>?_,CK hp hne hE os (k+1) (fun i=>by rw [show k+1+i=k+(i+1) by omega,←hos (i+1)];rfl) h.2⟩;obtain ⟨hB,hv,hn⟩:=hI;have ho:ops[k]?=some o:=(hos 0).symm;have hsz:w1.heap.size<=w.heap.size:=hB.size
  have hQ:∀ t ∈ o.looksAt ops,mr ops a0 T ka ks o a w t:=fun t ht=>by
   have:=hr t ht;unfold rd at this;unfold mr
   split
   ·rename_i e he
    rw [he] at this;have h2:=List.find?_some he;rw [Bool.and_eq_true] at h2
    split
    ·trivial
    split
    ·trivial
    rename_i n1 n2
    exact ⟨_,this,hv _ n1 n2 (JQ e (Array.mem_toList_iff.1 (List.mem_of_find?_eq_some he)) h2.1)⟩
   rename_i he
   rw [he] at this;exact this
  have hko:∀ j,j≠k->upd l k j=l j:=fun j hj=>if_neg hj
  have hkk:upd l k k=true:=if_pos rfl;have h1:=h.1;unfold ak at h1;unfold nF
  by_cases e1:k=ka
  ·rw [if_pos e1] at h1
   obtain ⟨hw,hwp⟩:=h1 a w;rw [if_pos hw];refine Oper.wp_mono ?_ hwp;rintro a' w' ⟨rfl,rfl⟩;subst e1
   have hls:l ks=false:=by
    cases q:l ks
    ·rfl
    rw [dG hc hE q] at hl;cases hl
   refine ⟨_,rfl,?_,?_,fun _=>⟨w,hsz,if_pos rfl,?_⟩⟩
   ·exact hB.alloc hsz _
   ·intro i n1 n2 hi
    rw [hko i n1] at hi;have:cr vals k (.pointer (some ⟨w,0,none⟩)) i=vals i:=if_neg n1;rw [this];exact Val.eo (hp i n1 n2) (hv i n1 n2 hi)
   rw [hko ks (fun e=>hne e.symm),hls];exact aG.new w xs Tn
  rw [if_neg e1] at h1
  by_cases e2:k=ks
  ·rw [if_pos e2] at h1
   subst e2;obtain ⟨hh,Mc,Le,hh3⟩:=hn (fz ho JQ hE);rw [hl] at hh3
   obtain ⟨hw,hwp⟩:=h1 a w hh Mc hh3 (fun t ht=>by
    have:=hr t ht;unfold rd at this;unfold vf
    split
    ·rename_i e he
     rw [he] at this;have h2:=List.find?_some he;rw [Bool.and_eq_true] at h2
     split
     ·rename_i q
      replace this:a.tmps[t]?=some (vals e.on):=this;rw [q,Le] at this;exact this
     split
     ·trivial
     rename_i n1 n2
     exact ⟨_,this,hv _ n1 n2 (JQ e (Array.mem_toList_iff.1 (List.mem_of_find?_eq_some he)) h2.1)⟩
    rename_i he
    rw [he] at this
    exact this)
   rw [if_pos hw];refine Oper.wp_mono ?_ hwp;rintro a' w' ⟨⟨v,e⟩,h2,h3⟩;refine ⟨v,e,?_,?_,fun _=>⟨hh,Mc,?_,?_⟩⟩
   ·exact hB.trans h3
   ·intro i n1 n2 hi
    rw [hko i n2] at hi;have:cr vals k v i=vals i:=if_neg n2;rw [this];exact Val.eo (hp i n1 n2) (hv i n1 n2 hi)
   ·have:cr vals k v ka=vals ka:=if_neg hne
    rw [this];exact Le
   rw [hkk];exact h2
  rw [if_neg e2] at h1
  have rest:∀ (v:Value) (w':World),(JP T k).ok v w'->Below w w w'->FZ T w1 ka ks Tn xs ys (upd l k) (cr vals k v) w':=by
   intro v w' h2 h3;refine ⟨hB.trans (h3.mono hsz),?_,?_⟩
   ·intro i n1 n2 hi
    by_cases hik:i=k
    ·subst hik
     have:cr vals i v i=v:=if_pos rfl;rw [this];exact h2
    rw [hko i hik] at hi;have:cr vals k v i=vals i:=if_neg hik;rw [this];exact Val.eo (hp i n1 n2) (hv i n1 n2 hi)
   intro hi;rw [hko ka (fun e=>e1 e.symm)] at hi;obtain ⟨hh,Mc,Le,hh3⟩:=hn hi;refine ⟨hh,Mc,?_,?_⟩
   ·have:cr vals k v ka=vals ka:=if_neg (fun e=>e1 e.symm)
    rw [this];exact Le
   rw [hko ks (fun e=>e2 e.symm)];exact hh3.keep h3
  have hd:=h1 a w hB hQ;unfold Does at hd
  split
  ·rename_i hw
   rw [if_pos hw] at hd;refine Oper.wp_mono ?_ hd;rintro a' w' ⟨v,e,h2,h3⟩;exact ⟨v,e,rest v w' h2 h3⟩
  rename_i hw
  rw [if_neg hw] at hd;exact rest undef w hd (IX _ _)
theorem Cp {id:Nat} {ops:Array Oper} {a0:Act} {w:World} (ka ks:Nat) (Tn:TypeId) (xs ys:Array Value) (T:List Val)
  (hm:P.follows .mixedOrders=true) (hok:d6 .any ops a0.tmps.size=true) (hC:(gY ops ka ks && decide (ka<ops.size) && decide (ks<ops.size))=true)
  (hp:∀ j,j≠ka->j≠ks->(JP T j).pure=true) (hne:ka≠ks)
  (hR:zD P Q ops a0 T w ka ks Tn xs ys ops.toList 0)
  (hF:∀ (vals:Nat->Value) (w':World) (h:Nat),w.heap.size<=h->aG w' h Tn ys->vals ka=.pointer (some ⟨h,0,none⟩)->Below w w w'->(∀ i,i<ops.size->i≠ka->i≠ks->(JP T i).ok (vals i) w')->Q .normal (fill (fun _=>true) vals ops.toList 0 a0) w'):(Code.region id ops true).wp P Q a0 w:=by
 rw [Bool.and_eq_true,Bool.and_eq_true,decide_eq_true_eq,decide_eq_true_eq] at hC;obtain ⟨⟨hE,ha⟩,hs⟩:=hC;refine kZ (FZ T w ka ks Tn xs ys) hm hok (fun vals=>⟨?_,(fun _ _ _ h=>absurd h σ),(fun h=>absurd h σ)⟩) (CK hp hne hE ops.toList 0 (fun i=>by rw [Nat.zero_add];exact Array.getElem?_toList) hR) ?_
 ·exact (IX _ w).drew
 intro l vals w' hl hI;obtain ⟨h1,h2,h3⟩:=hI;obtain ⟨h,q1,q2,q3⟩:=h3 (hl ka ha);rw [hl ks hs,if_pos rfl] at q3;exact hF vals w' h q1 q3 q2 h1 (fun i hi n1 n2=>h2 i n1 n2 (hl i hi))
end Rg
end
section
open Go Go.RowKit open M Rg
namespace Rg
variable {P:Program} {Q:Exit->Act->World->Prop}
section
variable (P) (Q) (ops:Array Oper) (a0:Act) (T:List Value) (J:Nat->(Nat->Value)->World->Prop) (C:List Nat)
def li (o:Oper) (a:Act) (vals:Nat->Value) (t:Nat):Prop:=
 match o.after.toList.find? (fun e=>Region.binds .any e && ((ops[e.on]?).bind (·.dst)) == some t) with
 | some e=>if e.on ∈ C then a.tmps[t]?=some (vals e.on) else a.tmps[t]?=some (T.getD e.on undef)
 | none=>a.tmps[t]?=a0.tmps[t]?
def bV (k:Nat) (o:Oper):Prop:=
 if k ∈ C then ∀ (a:Act) (w:World) (vals:Nat->Value),J (C.idxOf k) vals w->(∀ t ∈ o.looksAt ops,li ops a0 T C o a vals t)->Region.wanted o (yielded ops a.tmps)=true/\o.wp P a w (fun a' w'=>∃ v,a'=a.put o.dst v/\J (C.idxOf k+1) (cr vals k v) w') Q
 else ∀ (a:Act) (w:World) (n:Nat) (vals:Nat->Value),(n<=C.length/\(∀ c,c ∈ C->gY ops k c=true->n<=C.idxOf c)/\∀ c,c ∈ C->gY ops c k=true->C.idxOf c<n)->J n vals w->(∀ t ∈ o.looksAt ops,li ops a0 T C o a vals t)->Region.wanted o (yielded ops a.tmps)=true/\(execOp a.eval o).run P w=.ok (.value (T.getD k undef)) w
def zB:List Oper->Nat->Prop
 | [],_=>True
 | o :: os,k=>bV P Q ops a0 T J C k o/\zB os (k+1)
def G7 (l:Nat->Bool) (vals:Nat->Value) (w:World):Prop:=
 J (cnt l C) vals w/\∀ i,i ∉ C->l i=true->vals i=T.getD i undef
end
theorem nT {l:Nat->Bool} {c:Nat} (hl:l c=false):∀ C:List Nat,c ∈ C->cnt l C<=C.idxOf c
 | [],h=>by cases h
 | d :: cs,h=>by
  by_cases hd:d=c
  ·subst hd
   unfold cnt;rw [hl];simp
  have hm:c ∈ cs:=by
   rcases List.mem_cons.1 h with e | e
   ·exact absurd e.symm hd
   exact e
  have:=nT hl cs hm
  have e2:(d == c)=false:=by rw [beq_eq_false_iff_ne];exact hd
  rw [List.idxOf_cons,e2];unfold cnt
  split
  ·simp only [cond_false];omega
  omega
theorem AG {ops:Array Oper} {l:Nat->Bool} {c:Nat} (hc:mj .any ops l) (hl:l c=true):∀ C:List Nat,eK ops C=true->c ∈ C->C.idxOf c<cnt l C
 | [],_,h=>by cases h
 | [d],_,h=>by
  rcases List.mem_cons.1 h with rfl | h
  ·unfold cnt;rw [hl];simp [cnt]
  cases h
 | d :: e :: cs,ho,h=>by
  unfold eK at ho;rw [Bool.and_eq_true,Bool.and_eq_true,decide_eq_true_eq] at ho;obtain ⟨⟨he,-⟩,ho⟩:=ho
  by_cases hd:d=c
  ·subst hd
   unfold cnt;rw [hl];simp
  have hm:c ∈ e :: cs:=by
   rcases List.mem_cons.1 h with q | q
   ·exact absurd q.symm hd
   exact q
  have ih:=AG hc hl (e :: cs) ho hm
  have hle:l e=true:=by
   cases q:l e
   ·exfalso
    have z:cnt l (e :: cs)=0:=by unfold cnt;rw [q];rfl
    omega
   rfl
  have hld:=dG hc he hle
  have e2:(d == c)=false:=by rw [beq_eq_false_iff_ne];exact hd
  rw [List.idxOf_cons,e2]
  have:cnt l (d :: e :: cs)=cnt l (e :: cs)+1:=by rw [cnt];rw [if_pos hld]
  rw [this];simp only [cond_false];omega
theorem CH {ops:Array Oper} {a0:Act} {T:List Value} {J:Nat->(Nat->Value)->World->Prop} {C:List Nat} (hC:eK ops C=true) (hJ:∀ n v v' w,(∀ i ∈ C,v i=v' i)->J n v w->J n v' w) :
  ∀ (os:List Oper) (k:Nat),(∀ i,os[i]?=ops[k+i]?)->zB P Q ops a0 T J C os k->ic P Q .any ops (G7 T J C) a0 os k
 | [],_,_,_=>trivial
 | o :: os,k,hos,h=>by
  refine ⟨fun a w l vals hI hl hc JQ hr=>?_,CH hC hJ os (k+1) (fun i=>by rw [show k+1+i=k+(i+1) by omega,←hos (i+1)];rfl) h.2⟩;obtain ⟨hB,hv⟩:=hI;have ho:ops[k]?=some o:=(hos 0).symm
  have hQ:∀ t ∈ o.looksAt ops,li ops a0 T C o a vals t:=fun t ht=>by
   have:=hr t ht;unfold rd at this;unfold li
   split
   ·rename_i e he
    rw [he] at this;have h2:=List.find?_some he;rw [Bool.and_eq_true] at h2;replace this:a.tmps[t]?=some (vals e.on):=this
    split
    ·exact this
    rename_i n1
    rw [this,hv _ n1 (JQ e (Array.mem_toList_iff.1 (List.mem_of_find?_eq_some he)) h2.1)]
   rename_i he
   rw [he] at this;exact this
  have hko:∀ j,j≠k->upd l k j=l j:=fun j hj=>if_neg hj
  have h1:=h.1;unfold bV at h1;unfold nF
  have rest:∀ v,(k ∉ C->v=T.getD k undef)->∀ i,i ∉ C->upd l k i=true->cr vals k v i=T.getD i undef:=fun v hvk i n1 hi=>by
   by_cases hik:i=k
   ·subst hik
    have:cr vals i v i=v:=if_pos rfl;rw [this];exact hvk n1
   rw [hko i hik] at hi;have:cr vals k v i=vals i:=if_neg hik;rw [this];exact hv i n1 hi
  by_cases e3:k ∈ C
  ·rw [if_pos e3] at h1
   obtain ⟨q1,q2⟩:=kE hc hl (fun c hcd=>fz ho JQ hcd) C hC e3;rw [q1] at hB;obtain ⟨hw,hwp⟩:=h1 a w vals hB hQ;rw [if_pos hw];refine Oper.wp_mono ?_ hwp;rintro a' w' ⟨v,e,h2⟩;exact ⟨v,e,by rw [q2];exact h2,rest v (fun h=>absurd e3 h)⟩
  rw [if_neg e3] at h1
  have hup:∀ c,c ∈ C->gY ops k c=true->cnt l C<=C.idxOf c:=fun c hcm he=>by
   have hlc:l c=false:=by
    cases q:l c
    ·rfl
    rw [dG hc he q] at hl;cases hl
   exact nT hlc C hcm
  obtain ⟨hw,hwp⟩:=h1 a w _ vals ⟨ju C,hup,fun c hcm he=>AG hc (fz ho JQ he) C hC hcm⟩ hB hQ;rw [if_pos hw];unfold Oper.wp;rw [hwp];refine ⟨_,rfl,?_,rest _ (fun _=>rfl)⟩;rw [iH C e3];refine hJ _ _ _ _ (fun i hi=>?_) hB
  have:i≠k:=fun e=>e3 (by rw [←e];exact hi)
  exact (if_neg this).symm
theorem FQ {id:Nat} {ops:Array Oper} {a0:Act} {w:World} (J:Nat->(Nat->Value)->World->Prop) (C:List Nat) (T:List Value)
  (hm:P.follows .mixedOrders=true) (hok:d6 .any ops a0.tmps.size=true) (hC:eK ops C=true) (hcl:∀ c ∈ C,c<ops.size) (hJ:∀ n v v' w,(∀ i ∈ C,v i=v' i)->J n v w->J n v' w)
  (h0:∀ vals,J 0 vals { w with drawn:=w.drawn+1 })
  (hR:zB P Q ops a0 T J C ops.toList 0)
  (hF:∀ (vals:Nat->Value) (w':World),J C.length vals w'->(∀ i,i<ops.size->i ∉ C->vals i=T.getD i undef)->Q .normal (fill (fun _=>true) vals ops.toList 0 a0) w'):(Code.region id ops true).wp P Q a0 w:=by
 have c0:∀ C:List Nat,cnt (fun _=>false) C=0:=fun C=>by cases C <;> rfl
 have cl:∀ (l:Nat->Bool) (C:List Nat),(∀ c ∈ C,l c=true)->cnt l C=C.length:=fun l C=>by
  induction C with
  | nil=>intro _;rfl
  | cons c cs ih=>
  intro h;unfold cnt;rw [if_pos (h c (List.mem_cons_self ..)),ih (fun x hx=>h x (List.mem_cons_of_mem _ hx))];rfl
 refine kZ (G7 T J C) hm hok (fun vals=>⟨?_,(fun _ _ h=>absurd h σ)⟩) (CH hC hJ ops.toList 0 (fun i=>by rw [Nat.zero_add];exact Array.getElem?_toList) hR) ?_
 ·rw [c0]
  exact h0 vals
 intro l vals w' hl hI;obtain ⟨h1,h2⟩:=hI;rw [cl l C (fun c hc=>hl c (hcl c hc))] at h1;exact hF vals w' h1 (fun i hi n1=>h2 i n1 (hl i hi))
theorem gH {o:Oper} {a:Act} {w w2:World} {x:Value} {K:Value->World->Prop} (h:(execOp a.eval o).run P w=.ok (.value x) w2) (hK:K x w2):o.wp P a w (fun a' w'=>∃ v,a'=a.put o.dst v/\K v w') Q:=by
 unfold Oper.wp;rw [h];exact ⟨x,rfl,hK⟩
theorem ut {o:Oper} {a:Act} {w:World} {ob:Obj} {x:Value} {K:Value->World->Prop} (h:(execOp a.eval o).run P w=.ok (.value x) (w.alloc ob)) (hK:K x (w.alloc ob)):o.wp P a w (fun a' w'=>∃ v,a'=a.put o.dst v/\K v w') Q:=gH h hK
theorem ll {o:Oper} {a:Act} {w:World} {f:FuncId} {args:Array Value} {K:Value->World->Prop} (h:(execOp a.eval o).run P w=.ok (.enter f args) w) (hc:Calls P f args w fun e w'=>∃ v,e=.returned v/\K v w'):o.wp P a w (fun a' w'=>∃ v,a'=a.put o.dst v/\K v w') Q:=by
 unfold Oper.wp;rw [h];refine Calls.mono hc ?_;rintro e w' ⟨v,rfl,h1⟩;exact ⟨v,rfl,h1⟩
theorem kD {o:Oper} {a:Act} {w w2:World} {s x:Operand} {ts:TypeId} {v u v2:Value} (ho:o.op=.call { callee:=.builtin .append,args:=#[s,x],argTypes:=#[ts,ts] }) (hs:a.eval s=v) (hx:a.eval x=u) (h:(Builtin.append_ #[ts,ts] o.type #[v,u]).run P w=.ok v2 w2):(execOp a.eval o).run P w=.ok (.value v2) w2:=by
 unfold execOp;simp only [ho,resolve,invoke,builtin,Sem.run_bind,Sem.run_pure,Result.andThen_ok,List.map_toArray,List.map_cons,List.map_nil,hs,hx,h]
theorem sW (w:World) (xs:Array Value) (T:TypeId) (i:Nat) (u:Value) (h:xs[i]?=some u):(w.alloc (.cells xs T)).cell? ⟨w,i,none⟩=some u:=by
 rw [World.cell?_alloc_at _ _ _ _ rfl];exact h
end Rg
namespace Rg
variable {P:Program} {Q:Exit->Act->World->Prop}
section
variable (P) (Q) (ops:Array Oper) (a0:Act) (T:List Value) (J:(Nat->Bool)->(Nat->Value)->World->Prop) (C:List Nat)
def fJ (k:Nat) (o:Oper):Prop:=
 ∀ (a:Act) (w:World) (l:Nat->Bool) (vals:Nat->Value),J l vals w->l k=false->(∀ c,gY ops k c=true->l c=false)->(∀ c,gY ops c k=true->l c=true)->(∀ c d,gY ops c d=true->l d=true->l c=true)->(∀ t ∈ o.looksAt ops,li ops a0 T C o a vals t)->Region.wanted o (yielded ops a.tmps)=true/\
  if k ∈ C then o.wp P a w (fun a' w'=>∃ v,a'=a.put o.dst v/\J (upd l k) (cr vals k v) w') Q else (execOp a.eval o).run P w=.ok (.value (T.getD k undef)) w
def vm:List Oper->Nat->Prop
 | [],_=>True
 | o :: os,k=>fJ P Q ops a0 T J C k o/\vm os (k+1)
def G8 (l:Nat->Bool) (vals:Nat->Value) (w:World):Prop:=
 J l vals w/\∀ i,i ∉ C->l i=true->vals i=T.getD i undef
end
theorem CI {ops:Array Oper} {a0:Act} {T:List Value} {J:(Nat->Bool)->(Nat->Value)->World->Prop} {C:List Nat} (hJ:∀ l l' v v' w,(∀ i ∈ C,l i=l' i/\v i=v' i)->J l v w->J l' v' w) :
  ∀ (os:List Oper) (k:Nat),(∀ i,os[i]?=ops[k+i]?)->vm P Q ops a0 T J C os k->ic P Q .any ops (G8 T J C) a0 os k
 | [],_,_,_=>trivial
 | o :: os,k,hos,h=>by
  refine ⟨fun a w l vals hI hl hc JQ hr=>?_,CI hJ os (k+1) (fun i=>by rw [show k+1+i=k+(i+1) by omega,←hos (i+1)];rfl) h.2⟩;obtain ⟨hB,hv⟩:=hI;have ho:ops[k]?=some o:=(hos 0).symm
  have hQ:∀ t ∈ o.looksAt ops,li ops a0 T C o a vals t:=fun t ht=>by
   have:=hr t ht;unfold rd at this;unfold li
   split
   ·rename_i e he
    rw [he] at this;have h2:=List.find?_some he;rw [Bool.and_eq_true] at h2;replace this:a.tmps[t]?=some (vals e.on):=this
    split
    ·exact this
    rename_i n1
    rw [this,hv _ n1 (JQ e (Array.mem_toList_iff.1 (List.mem_of_find?_eq_some he)) h2.1)]
   rename_i he
   rw [he] at this;exact this
  have hko:∀ j,j≠k->upd l k j=l j:=fun j hj=>if_neg hj
  have h1:=h.1;unfold fJ at h1
  have rest:∀ v,(k ∉ C->v=T.getD k undef)->∀ i,i ∉ C->upd l k i=true->cr vals k v i=T.getD i undef:=fun v hvk i n1 hi=>by
   by_cases hik:i=k
   ·subst hik
    have:cr vals i v i=v:=if_pos rfl;rw [this];exact hvk n1
   rw [hko i hik] at hi;have:cr vals k v i=vals i:=if_neg hik;rw [this];exact hv i n1 hi
  have hup:∀ c,gY ops k c=true->l c=false:=fun c he=>by
   cases q:l c
   ·rfl
   rw [dG hc he q] at hl;cases hl
  obtain ⟨hw,h1⟩:=h1 a w l vals hB hl hup (fun c he=>fz ho JQ he) (fun c d he hd=>dG hc he hd) hQ;unfold nF;rw [if_pos hw]
  by_cases e3:k ∈ C
  ·rw [if_pos e3] at h1
   refine Oper.wp_mono ?_ h1;rintro a' w' ⟨v,e,h2⟩;exact ⟨v,e,h2,rest v (fun h=>absurd e3 h)⟩
  rw [if_neg e3] at h1;unfold Oper.wp;rw [h1];refine ⟨_,rfl,hJ l _ vals _ _ (fun i hi=>?_) hB,rest _ (fun _=>rfl)⟩
  have:i≠k:=fun e=>e3 (by rw [←e];exact hi)
  exact ⟨(hko i this).symm,(if_neg this).symm⟩
theorem FS {id:Nat} {ops:Array Oper} {a0:Act} {w:World} (J:(Nat->Bool)->(Nat->Value)->World->Prop) (C:List Nat) (T:List Value)
  (hm:P.follows .mixedOrders=true) (hok:d6 .any ops a0.tmps.size=true) (hcl:∀ c ∈ C,c<ops.size) (hJ:∀ l l' v v' w,(∀ i ∈ C,l i=l' i/\v i=v' i)->J l v w->J l' v' w)
  (h0:∀ vals,J (fun _=>false) vals { w with drawn:=w.drawn+1 })
  (hR:vm P Q ops a0 T J C ops.toList 0)
  (hF:∀ (vals:Nat->Value) (w':World),J (fun _=>true) vals w'->(∀ i,i<ops.size->i ∉ C->vals i=T.getD i undef)->Q .normal (fill (fun _=>true) vals ops.toList 0 a0) w'):(Code.region id ops true).wp P Q a0 w:=by
 refine kZ (G8 T J C) hm hok (fun vals=>⟨h0 vals,(fun _ _ h=>absurd h σ)⟩) (CI hJ ops.toList 0 (fun i=>by rw [Nat.zero_add];exact Array.getElem?_toList) hR) ?_;intro l vals w' hl hI;obtain ⟨h1,h2⟩:=hI;exact hF vals w' (hJ l _ vals vals w' (fun i hi=>⟨hl i (hcl i hi),rfl⟩) h1) (fun i hi n1=>h2 i n1 (hl i hi))
end Rg
namespace Rg
variable {P:Program} {Q:Exit->Act->World->Prop}
section
variable (P) (Q) (ops:Array Oper) (a0:Act) (T:List Value) (Base:(Nat->Bool)->World->Prop) (F:Nat->Value->World->Prop) (Rel:World->World->Prop) (C:List Nat)
def bG (k:Nat) (o:Oper):Prop:=
 ∀ (a:Act) (w:World) (l:Nat->Bool) (vals:Nat->Value),Base l w->(∀ i ∈ C,l i=true->F i (vals i) w)->l k=false->(∀ c,gY ops k c=true->l c=false)->(∀ c,gY ops c k=true->l c=true)->(∀ c d,gY ops c d=true->l d=true->l c=true)->(∀ t ∈ o.looksAt ops,li ops a0 T C o a vals t)->Region.wanted o (yielded ops a.tmps)=true/\
  if k ∈ C then o.wp P a w (fun a' w'=>∃ v,a'=a.put o.dst v/\Base (upd l k) w'/\F k v w'/\Rel w w') Q else (execOp a.eval o).run P w=.ok (.value (T.getD k undef)) w
def zJ:List Oper->Nat->Prop
 | [],_=>True
 | o :: os,k=>bG P Q ops a0 T Base F Rel C k o/\zJ os (k+1)
end
theorem xF {ops:Array Oper} {a0:Act} {T:List Value} {Base:(Nat->Bool)->World->Prop} {F:Nat->Value->World->Prop} {Rel:World->World->Prop} {C:List Nat} (hF:∀ i u w w',Rel w w'->F i u w->F i u w') :
  ∀ (os:List Oper) (k:Nat),zJ P Q ops a0 T Base F Rel C os k->vm P Q ops a0 T (fun l vals w=>Base l w/\∀ i ∈ C,l i=true->F i (vals i) w) C os k
 | [],_,_=>trivial
 | o :: os,k,h=>by
  refine ⟨fun a w l vals hJ hl hu hd hc hr=>?_,xF hF os (k+1) h.2⟩;have h1:=h.1;unfold bG at h1;obtain ⟨hw,h1⟩:=h1 a w l vals hJ.1 hJ.2 hl hu hd hc hr;refine ⟨hw,?_⟩
  by_cases hk:k ∈ C
  ·rw [if_pos hk] at h1 ⊢
   refine Oper.wp_mono ?_ h1;rintro a' w' ⟨v,e,h2,h3,h4⟩;refine ⟨v,e,h2,fun i hi hli=>?_⟩
   by_cases hik:i=k
   ·subst hik
    have:cr vals i v i=v:=if_pos rfl;rw [this];exact h3
   have e1:upd l k i=l i:=if_neg hik;have e2:cr vals k v i=vals i:=if_neg hik;rw [e1] at hli;rw [e2];exact hF i _ w w' h4 (hJ.2 i hi hli)
  rw [if_neg hk] at h1 ⊢;exact h1
theorem Cq {id:Nat} {ops:Array Oper} {a0:Act} {w:World} (Base:(Nat->Bool)->World->Prop) (F:Nat->Value->World->Prop) (Rel:World->World->Prop) (C:List Nat) (T:List Value)
  (hm:P.follows .mixedOrders=true) (hok:d6 .any ops a0.tmps.size=true) (hcl:∀ c ∈ C,c<ops.size) (hB:∀ l l' w,(∀ i ∈ C,l i=l' i)->Base l w->Base l' w) (hF:∀ i u w w',Rel w w'->F i u w->F i u w')
  (h0:Base (fun _=>false) { w with drawn:=w.drawn+1 })
  (hR:zJ P Q ops a0 T Base F Rel C ops.toList 0)
  (hQ:∀ (vals:Nat->Value) (w':World),Base (fun _=>true) w'->(∀ i ∈ C,F i (vals i) w')->(∀ i,i<ops.size->i ∉ C->vals i=T.getD i undef)->Q .normal (fill (fun _=>true) vals ops.toList 0 a0) w'):(Code.region id ops true).wp P Q a0 w:=by
 refine FS (fun l vals w=>Base l w/\∀ i ∈ C,l i=true->F i (vals i) w) C T hm hok hcl (fun l l' v v' w h hJ=>⟨hB l l' w (fun i hi=>(h i hi).1) hJ.1,fun i hi hl=>?_⟩) (fun vals=>⟨h0,fun i _ h=>absurd h σ⟩) (xF hF _ _ hR) (fun vals w' hJ hv=>hQ vals w' hJ.1 (fun i hi=>hJ.2 i hi rfl) hv);have:=h i hi;rw [←this.2];exact hJ.2 i hi (this.1.trans hl)
def Ky:List (Nat × Nat)->(Nat->Bool)->Nat
 | [],_=>0
 | p :: C,l=>(bif l p.1 then p.2 else 0)+Ky C l
theorem q9 {C:List (Nat × Nat)} {l l':Nat->Bool} (h:∀ p ∈ C,l p.1=l' p.1):Ky C l=Ky C l':=by
 induction C with
 | nil=>rfl
 | cons p C ih=>
 unfold Ky;rw [h p List.mem_cons_self,ih fun q hq=>h q (List.mem_cons_of_mem _ hq)]
theorem ck {C:List (Nat × Nat)} {l:Nat->Bool} {k:Nat} (h:∀ p ∈ C,p.1≠k):Ky C (upd l k)=Ky C l:=
 q9 fun p hp=>if_neg (h p hp)
theorem ur:∀ (C:List (Nat × Nat)) (l:Nat->Bool),Ky C l<=Ky C fun _=>true
 | [],_=>IY _
 | p :: C,l=>by
  have:=ur C l;unfold Ky
  cases l p.1 <;> simp <;> omega
theorem BP {C:List (Nat × Nat)} {l:Nat->Bool} {k c:Nat} (h:∀ p ∈ C,p.1=k->p.2=c) (hc:(C.filter fun p=>p.1 == k).length=1) (hl:l k=false):Ky C (upd l k)=Ky C l+c:=by
 induction C with
 | nil=>cases hc
 | cons p C ih=>
 unfold Ky
 by_cases hp:p.1=k
 ·have e1:upd l k p.1=true:=by rw [hp];exact if_pos rfl
  rw [e1,hp,hl,h p List.mem_cons_self hp];rw [List.filter_cons,if_pos (by simpa using hp),List.length_cons] at hc
  have hn:∀ q ∈ C,q.1≠k:=fun q hq he=>by
   have:q ∈ C.filter fun p=>p.1 == k:=List.mem_filter.2 ⟨hq,by simpa using he⟩
   have:0<(C.filter fun p=>p.1 == k).length:=List.length_pos_of_mem this;omega
  rw [ck hn];simp only [cond_true,cond_false];omega
 have e1:upd l k p.1=l p.1:=if_neg hp;rw [e1];rw [List.filter_cons,if_neg (by simpa using hp)] at hc;rw [ih (fun q hq=>h q (List.mem_cons_of_mem _ hq)) hc];omega
end Rg
end
section
open Go.RowKit open Gr M Rg
def UF (X:List Nat) (W W':World):Prop:=∃ r ∈ X,W.grownBy W' (some r)
def y9 (X:List Nat) (m:Nat) (u:Value) (W:World):Prop:=
 ∃ (b:Nat) (l:List Int),u=.slice (some ⟨b,0,none⟩) m m/\l.length=m/\b ∉ X/\∀ (j:Nat) (x:Int),l[j]?=some x->W.cell? ⟨b,j,none⟩=some (.int .i64 x)
theorem y9.keep {X:List Nat} {m:Nat} {u:Value} {W W':World} (h:y9 X m u W) (hR:UF X W W'):y9 X m u W':=by
 obtain ⟨b,l,e,hl,h1,hc⟩:=h;obtain ⟨r,hr,hg⟩:=hR;exact ⟨b,l,e,hl,h1,fun j x hj=>gW hg (hc j x hj) fun h=>h1 (h ▸ hr)⟩
theorem y9.new {X:List Nat} (W:World) (T:TypeId) (l:List Int) {m:Nat} (hm:l.length=m) (h1:∀ x ∈ X,x<W.heap.size):y9 X m (.slice (some ⟨W,0,none⟩) m m) (W.alloc (.cells (l.map (Value.int .i64)).toArray T)):=
 ⟨W,l,rfl,hm,fun h=>by have:=h1 _ h;omega,yO W T l⟩
theorem UF.self {X:List Nat} {r:Nat} (h:r ∈ X) (W:World):UF X W W:=⟨r,h,dl W _⟩
theorem St.drew {w W:World} {g B n K:Nat} {v:Value} (h:St w W g B v n K):St w { W with drawn:=W.drawn+1 } g B v n K:=h.keep ((IX W W).drew)
end
section
open Go.RowKit open Gr M Rg Rw Wh
theorem yg (X Y E:Int) (w:World) (h1:-4000000000000000000<=Y) (h2:Y<=4000000000000000000) :
  cB 124 #[.agg #[X,Y,E]] w (.agg #[X,(-Y:Int),E]):=by
 go_enter func124,ntmps124
 go_wp2;exact D_ results124 ⟨rfl,Jz⟩
namespace M
abbrev Ib:=Int × Int × Int
noncomputable def JT (a X Y E:Int):Nat->Option Ib
 | 0=>some (0,0,0)
 | n+1=>(JT a X Y E n).bind fun p=>if bB a p.1 p.2.1 p.2.2 X Y E=true then some (cK a p.1 p.2.1 p.2.2 X Y E,dC a p.1 p.2.1 p.2.2 X Y E,cJ a p.1 p.2.1 p.2.2 X Y E) else none
def pX (r:Option Ib):Int:=(r.getD (0,0,0)).1
def pY (r:Option Ib):Int:=(r.getD (0,0,0)).2.1
def pE (r:Option Ib):Int:=(r.getD (0,0,0)).2.2
theorem fY (a b:Int):aP a b 0 0 0=true:=by
 unfold aP;simp
theorem gS {a b X Y E:Int} (hg:good a b=true) (hp:aP a b X Y E=true):∀ n p,JT a X Y E n=some p->aP a b p.1 p.2.1 p.2.2=true
 | 0,p,h=>by
  cases h
  exact fY a b
 | n+1,p,h=>by
  unfold JT at h
  cases hq:JT a X Y E n with
  | none=>rw [hq] at h;cases h
  | some q=>
  rw [hq] at h;have hq2:=gS hg hp n q hq;simp only [Option.bind_some] at h
  split at h
  ·cases h
   exact ie (aY hg) hq2 hp
  cases h
theorem fI {a X Y E:Int} {n:Nat} {p:Ib} (h:JT a X Y E n=some p):JT a X Y E (n+1)=if bB a p.1 p.2.1 p.2.2 X Y E=true then some (cK a p.1 p.2.1 p.2.2 X Y E,dC a p.1 p.2.1 p.2.2 X Y E,cJ a p.1 p.2.1 p.2.2 X Y E) else none:=by
 conv=>lhs;unfold JT
 rw [h];rfl
theorem gE {a X Y E:Int} {n:Nat} (h:JT a X Y E n=none):∀ k,n<=k->JT a X Y E k=none
 | 0,hk=>by
  obtain rfl:n=0:=ω
  exact h
 | k+1,hk=>by
  by_cases e:n=k+1
  ·rw [←e];exact h
  conv=>lhs;unfold JT
  rw [gE h k ω];rfl
def Mg (n Y:Int):Int:=if n<0 then -Y else Y
noncomputable def gD (a X Y E n:Int):Option Ib:=JT a X (Mg n Y) E n.natAbs
end M
theorem gu (a b X Y E n:Int) (w:World) (hg:M.good a b=true) (hp:aP a b X Y E=true) (hn1:-1000000<=n) (hn2:n<=1000000) :
  cB 81 #[.agg #[a,b],.agg #[X,Y,E],n] w (.tuple #[.agg #[M.pX (gD a X Y E n),M.pY (gD a X Y E n),M.pE (gD a X Y E n)],.bool (gD a X Y E n).isSome]):=by
 obtain ⟨r1,r2,r3,r4,y1,y2⟩:=eP (aY hg) hp
 have PO:=fun W=>yg X Y E W ω ω
 have hm:=dp hp
 obtain ⟨k,hk⟩:∃ k:Nat,k=n.natAbs:=⟨_,rfl⟩
 obtain ⟨Z,hZ⟩:∃ Z,Z=M.Mg n Y:=⟨_,rfl⟩
 have hpz:aP a b X Z E=true:=by
  rw [hZ];unfold M.Mg
  split
  ·exact hm
  exact hp
 have PA:=fun (p:M.Ib) (h:aP a b p.1 p.2.1 p.2.2=true) W=>kV a b p.1 p.2.1 p.2.2 X Z E W hg h hpz
 have HT:=gS hg hpz
 have hr:gD a X Y E n=M.JT a X Z E k:=by unfold gD;rw [←hZ,←hk]
 rw [hr]
 obtain ⟨res,hres⟩:∃ r,M.JT a X Z E k=r:=⟨_,rfl⟩
 rw [hres]
 have hkb:k<=1000000:=ω
 clear r1 r2 r3 r4 y1 y2 hm hg hp hpz hr;replace PA:=IU PA;replace HT:=IU HT;replace hres:=IU hres;obtain ⟨wc,hw3,C,Q,R,B⟩:=dB w #[a,b] 25 #[X,Y,E] 40 #[(0:Int),(0:Int),(0:Int)] 40;have ⟨k0,k1,_,_,_⟩:=C.box;have ⟨q0,q1,q2,m0,m1,m2⟩:=Q.bJ
 by_cases hneg:n<0
 ·have hzy:-Y=Z:=by rw [hZ];unfold M.Mg;exact (if_pos hneg).symm
  rw [hzy] at PO;replace PO:=IU PO;clear hzy
  have hkn:(k:Int)=-n:=ω
  clear hZ hk;go_enter func81,ntmps81
  go_wp2_with fail
  with_reducible refine p_ (PO.out _) fun w4 hb4=>?_
  replace ⟨B,C,Q,R⟩:=Ip hb4 B C Q R;clear k0 k1 q0 q1 q2 m0 m1 m2 hb4;have ⟨q0,q1,q2,m0,m1,m2⟩:=Q.bJ;replace B:Below w w (((w4.setCell ⟨w.heap.size+1,0,none⟩ (.int .i64 X)).setCell ⟨w.heap.size+1,1,none⟩ (.int .i64 Z)).setCell ⟨w.heap.size+1,2,none⟩ (.int .i64 E)):=JW B;replace C:=((C.other (k:=w.heap.size+1) (i:=0) ω (.int .i64 X)).other (k:=w.heap.size+1) (i:=1) ω (.int .i64 Z)).other (k:=w.heap.size+1) (i:=2) ω (.int .i64 E);replace R:=((R.other (k:=w.heap.size+1) (i:=0) ω (.int .i64 X)).other (k:=w.heap.size+1) (i:=1) ω (.int .i64 Z)).other (k:=w.heap.size+1) (i:=2) ω (.int .i64 E);replace Q:=Q.ou (.int .i64 X) (.int .i64 Z) (.int .i64 E)
  go_upto_region 4 with fail
  clear q0 q1 q2 m0 m1 m2;generalize (((w4.setCell ⟨w.heap.size+1,0,none⟩ (.int .i64 X)).setCell ⟨w.heap.size+1,1,none⟩ (.int .i64 Z)).setCell ⟨w.heap.size+1,2,none⟩ (.int .i64 E))=wd at *;have O:=aG.new wd #[(0:Int),(0:Int),(0:Int)] 40;have Qc:=B.size;have Tc:=Q.lt;have hRl:=R.lt;have hCl:=C.lt;replace B:=B.alloc Qc (.cells #[(0:Int),(0:Int),(0:Int)] 40);replace C:=C.alloc (.cells #[(0:Int),(0:Int),(0:Int)] 40);replace Q:=Q.alloc (.cells #[(0:Int),(0:Int),(0:Int)] 40);replace R:=R.alloc (.cells #[(0:Int),(0:Int),(0:Int)] 40);go_wp2;generalize wd.heap.size=ko at *
  go_loopw [2] (fun vi wq=>∃ (j:Nat) (p:M.Ib),j<=k/\vi=.int .i64 ((k:Int) - j)/\Hid (M.JT a X Z E j=some p)/\Below w w wq/\aG wq ko 40 #[p.1,p.2.1,p.2.2]/\aG wq w 25 #[a,b]/\aG wq (w.heap.size+1) 40 #[X,Z,E]/\aG wq (w.heap.size+1+1) 40 #[(0:Int),(0:Int),(0:Int)]) (fun vi _=>(intOf vi).toNat)
  case atStart=>exact ⟨0,(0,0,0),ω,congrArg (Value.int .i64) ω,IU rfl,B,O,C,Q,R⟩
  case round=>
  clear B O C Q R;obtain ⟨j,⟨px,py,pe⟩,hj,rfl,ht,B,O,C,Q,R⟩:=hrel;have NC:=HT.out j _ ht.out;have hnx:=fI ht.out;replace PA:=PA.out _ NC;clear NC
  dsimp only at hnx PA O
  by_cases hlt:j<k
  ·have hgt:0<(k:Int) - j:=ω
   generalize bB a px py pe X Z E=o3,cJ a px py pe X Z E=E3,dC a px py pe X Z E=Y3,cK a px py pe X Z E=X3 at *;replace PA:=IU PA;replace hnx:=IU hnx;have ⟨k0,k1,_,_,_⟩:=C.box;have ⟨q0,q1,q2⟩:=Q.aM;have ⟨o0,o1,o2⟩:=O.aM
   go_wp2_with fail
   with_reducible refine p_ (PA.out _) fun wk Ju=>?_
   have YK:=(j_ B Ju).size;have B0:=j_ B Ju;replace B:=B0.alloc YK (.cells #[X3,Y3,E3] 40);replace O:=(O.keep Ju).alloc (.cells #[X3,Y3,E3] 40);replace C:=(C.keep Ju).alloc (.cells #[X3,Y3,E3] 40);replace Q:=(Q.keep Ju).alloc (.cells #[X3,Y3,E3] 40);replace R:=(R.keep Ju).alloc (.cells #[X3,Y3,E3] 40);have S:=aG.new wk #[X3,Y3,E3] 40;clear k0 k1 q0 q1 q2 o0 o1 o2 Ju
   cases o3 with
   | false=>
    have hno:res=none:=hres.out.symm.trans (gE (hnx.out.trans (if_neg δ)) k ω);subst hno;have ⟨x0,x1,x2,z0,z1,z2⟩:=R.bJ;go_wp2;exact D_ results81 ⟨rfl,JW B⟩
   | true=>
   replace hnx:=IU (hnx.out.trans (if_pos rfl));have ⟨x0,x1,x2,z0,z1,z2⟩:=O.bJ;have ⟨s0,s1,s2⟩:=S.aM;go_wp2
   go_roundw
   case rel=>exact ⟨j+1,(X3,Y3,E3),ω,ν,hnx,JW B,O.ou _ _ _,((C.other ω _).other ω _).other ω _,((Q.other ω _).other ω _).other ω _,((R.other ω _).other ω _).other ω _⟩
   case measure=>simp [intOf];omega
  obtain rfl:j=k:=ω
  obtain rfl:res=some (px,py,pe):=hres.out.symm.trans ht.out;have ⟨x0,x1,x2,z0,z1,z2⟩:=R.bJ;have ⟨o0,o1,o2⟩:=O.aM
  have hz:¬ 0<(j:Int) - j:=ω
  go_wp2;exact D_ results81 ⟨rfl,JW B⟩
 obtain rfl:Z=Y:=by rw [hZ];unfold M.Mg;exact if_neg hneg
 have hkn:(k:Int)=n:=ω
 clear hZ hk PO;go_enter func81,ntmps81
 go_upto_region 4 with fail
 clear k0 k1 q0 q1 q2 m0 m1 m2;have O:=aG.new wc #[(0:Int),(0:Int),(0:Int)] 40;have Qc:=B.size;have Tc:=Q.lt;have hRl:=R.lt;have hCl:=C.lt;replace B:=B.alloc Qc (.cells #[(0:Int),(0:Int),(0:Int)] 40);replace C:=C.alloc (.cells #[(0:Int),(0:Int),(0:Int)] 40);replace Q:=Q.alloc (.cells #[(0:Int),(0:Int),(0:Int)] 40);replace R:=R.alloc (.cells #[(0:Int),(0:Int),(0:Int)] 40);go_wp2;generalize wc.heap.size=ko at *
 go_loopw [2] (fun vi wq=>∃ (j:Nat) (p:M.Ib),j<=k/\vi=.int .i64 ((k:Int) - j)/\Hid (M.JT a X Z E j=some p)/\Below w w wq/\aG wq ko 40 #[p.1,p.2.1,p.2.2]/\aG wq w 25 #[a,b]/\aG wq (w.heap.size+1) 40 #[X,Z,E]/\aG wq (w.heap.size+1+1) 40 #[(0:Int),(0:Int),(0:Int)]) (fun vi _=>(intOf vi).toNat)
 case atStart=>exact ⟨0,(0,0,0),ω,congrArg (Value.int .i64) ω,IU rfl,B,O,C,Q,R⟩
 case round=>
 clear B O C Q R;obtain ⟨j,⟨px,py,pe⟩,hj,rfl,ht,B,O,C,Q,R⟩:=hrel;have NC:=HT.out j _ ht.out;have hnx:=fI ht.out;replace PA:=PA.out _ NC;clear NC
 dsimp only at hnx PA O
 by_cases hlt:j<k
 ·have hgt:0<(k:Int) - j:=ω
  generalize bB a px py pe X Z E=o3,cJ a px py pe X Z E=E3,dC a px py pe X Z E=Y3,cK a px py pe X Z E=X3 at *;replace PA:=IU PA;replace hnx:=IU hnx;have ⟨k0,k1,_,_,_⟩:=C.box;have ⟨q0,q1,q2⟩:=Q.aM;have ⟨o0,o1,o2⟩:=O.aM
  go_wp2_with fail
  with_reducible refine p_ (PA.out _) fun wk Ju=>?_
  have YK:=(j_ B Ju).size;have B0:=j_ B Ju;replace B:=B0.alloc YK (.cells #[X3,Y3,E3] 40);replace O:=(O.keep Ju).alloc (.cells #[X3,Y3,E3] 40);replace C:=(C.keep Ju).alloc (.cells #[X3,Y3,E3] 40);replace Q:=(Q.keep Ju).alloc (.cells #[X3,Y3,E3] 40);replace R:=(R.keep Ju).alloc (.cells #[X3,Y3,E3] 40);have S:=aG.new wk #[X3,Y3,E3] 40;clear k0 k1 q0 q1 q2 o0 o1 o2 Ju
  cases o3 with
  | false=>
   have hno:res=none:=hres.out.symm.trans (gE (hnx.out.trans (if_neg δ)) k ω);subst hno;have ⟨x0,x1,x2,z0,z1,z2⟩:=R.bJ;go_wp2;exact D_ results81 ⟨rfl,JW B⟩
  | true=>
  replace hnx:=IU (hnx.out.trans (if_pos rfl));have ⟨x0,x1,x2,z0,z1,z2⟩:=O.bJ;have ⟨s0,s1,s2⟩:=S.aM;go_wp2
  go_roundw
  case rel=>exact ⟨j+1,(X3,Y3,E3),ω,ν,hnx,JW B,O.ou _ _ _,((C.other ω _).other ω _).other ω _,((Q.other ω _).other ω _).other ω _,((R.other ω _).other ω _).other ω _⟩
  case measure=>simp [intOf];omega
 obtain rfl:j=k:=ω
 obtain rfl:res=some (px,py,pe):=hres.out.symm.trans ht.out;have ⟨x0,x1,x2,z0,z1,z2⟩:=R.bJ;have ⟨o0,o1,o2⟩:=O.aM
 have hz:¬ 0<(j:Int) - j:=ω
 go_wp2;exact D_ results81 ⟨rfl,JW B⟩
namespace M
noncomputable def kT (a X Y E:Int):Nat->Nat->Option Nat
 | 0,_=>none
 | f+1,n=>match JT a X Y E n with
  | none=>none
  | some p=>if p.2.2=0 then some n else kT a X Y E f (n+1)
noncomputable def gG (a X Y E:Int):Option Nat:=kT a X Y E 12 1
theorem gl {a X Y E:Int} {f n:Nat} (h:JT a X Y E n=none):kT a X Y E (f+1) n=none:=by
 unfold kT;rw [h]
theorem fX {a X Y E:Int} {f n:Nat} {p:Ib} (h:JT a X Y E n=some p):kT a X Y E (f+1) n=if p.2.2=0 then some n else kT a X Y E f (n+1):=by
 conv=>lhs;unfold kT
 rw [h]
theorem Ck {a X Y E:Int} (n:Nat):gD a X Y E (n:Int)=JT a X Y E n:=by
 unfold gD Mg;rw [if_neg ω];rfl
end M
theorem yh (a b X Y E:Int) (w:World) (hg:M.good a b=true) (hp:aP a b X Y E=true) :
  cB 79 #[.agg #[a,b],.agg #[X,Y,E]] w (.tuple #[.int .i64 ((gG a X Y E).getD 0:Nat),.bool (gG a X Y E).isSome]):=by
 have PT:=fun (n:Nat) (hn:n<=12) W=>gu a b X Y E (n:Int) W hg hp ω ω
 simp only [Ck] at PT;unfold gG
 obtain ⟨res,hres⟩:∃ r,kT a X Y E 12 1=r:=⟨_,rfl⟩
 rw [hres];replace hres:=IU hres;replace PT:=IU PT
 have hno:=IU fun (f n:Nat) (h:M.JT a X Y E n=none)=>gl (f:=f) h
 have hyes:=IU fun (f n:Nat) (p:M.Ib) (h:M.JT a X Y E n=some p)=>fX (f:=f) h
 clear hg hp;obtain ⟨wc,hw3,C,Q,B⟩:=eC w #[a,b] 25 #[X,Y,E] 40;go_enter func79,ntmps79
 go_wp2
 go_loopw [6] (fun vi wq=>∃ j:Nat,1<=j/\j<=13/\vi=.int .i64 j/\Hid (kT a X Y E (13 - j) j=res)/\Below w w wq/\aG wq w 25 #[a,b]/\aG wq (w.heap.size+1) 40 #[X,Y,E]) (fun vi _=>13 - (intOf vi).toNat)
 case atStart=>exact ⟨1,ω,ω,rfl,hres,B,C,Q⟩
 case round=>
 clear B C Q hres;obtain ⟨j,hj1,hj,rfl,hres,B,C,Q⟩:=hrel
 by_cases hlt:j<=12
 ·obtain ⟨m,hm⟩:∃ m,13 - j=m+1:=⟨12 - j,ω⟩
  have hm2:13 - (j+1)=m:=ω
  rw [hm] at hres;replace PT:=PT.out j hlt;replace hno:=hno.out m j;replace hyes:=hyes.out m j;generalize M.JT a X Y E j=tj at *;have ⟨c0,c1,_,_,_⟩:=C.box;have ⟨q0,q1,q2⟩:=Q.aM
  cases tj with
  | none=>
   obtain rfl:=hres.out.symm.trans (hno rfl);clear hno hyes hres;replace PT:=IU (show ∀ W,cB 81 #[.agg #[a,b],.agg #[X,Y,E],.int .i64 (j:Int)] W (.tuple #[.agg #[(0:Int),(0:Int),(0:Int)],false]) from PT)
   go_wp2_with (go_at_call 81;with_reducible refine p_ (PT.out _) fun w4 hb4=>?_;have Ji:=(j_ B hb4).size;replace B:=(j_ B hb4).alloc Ji (.cells #[(0:Int),(0:Int),(0:Int)] 40))
   go_ret2;exact ⟨rfl,B⟩
  | some p=>
  obtain ⟨px,py,pe⟩:=p;have hst:=hres.out.symm.trans (hyes _ rfl);clear hno hyes hres
  dsimp only at hst
  replace PT:=IU (show ∀ W,cB 81 #[.agg #[a,b],.agg #[X,Y,E],.int .i64 (j:Int)] W (.tuple #[.agg #[px,py,pe],true]) from PT)
  by_cases he:pe=0
  ·obtain rfl:=hst.trans (if_pos he)
   clear hst hm hm2;subst he
   go_wp2_with (go_at_call 81;with_reducible refine p_ (PT.out _) fun w4 hb4=>?_;have Ji:=(j_ B hb4).size;replace B:=(j_ B hb4).alloc Ji (.cells #[px,py,(0:Int)] 40);have V:=aG.new w4 #[px,py,(0:Int)] 40;(have ⟨v0,v1,v2⟩:=V.aM))
   go_ret2;exact ⟨rfl,B⟩
  have hres:=IU (hst.trans (if_neg he)).symm;rw [←hm2] at hres;clear hst hm hm2
  have heb:(pe == 0)=false:=by simpa using he
  go_wp2_with (go_at_call 81;with_reducible refine p_ (PT.out _) fun w4 hb4=>?_;have Ji:=(j_ B hb4).size;replace B:=(j_ B hb4).alloc Ji (.cells #[px,py,pe] 40);replace C:=(C.keep hb4).alloc (.cells #[px,py,pe] 40);replace Q:=(Q.keep hb4).alloc (.cells #[px,py,pe] 40);have V:=aG.new w4 #[px,py,pe] 40;(have ⟨v0,v1,v2⟩:=V.aM))
  go_roundw
  case rel=>exact ⟨j+1,ω,ω,ν,hres,B,C,Q⟩
  case measure=>simp [intOf];omega
 obtain rfl:j=13:=ω
 obtain rfl:res=none:=hres.out.symm;go_wp2;go_ret2;exact ⟨rfl,B⟩
theorem oX (a b X Y E:Int) (w:World) (hg:M.good a b=true) (hp:aP a b X Y E=true) :
  cB 59 #[.agg #[a,b],.agg #[X,Y,E]] w (.tuple #[.int .i64 ((gG a X Y E).getD 0:Nat),.bool (gG a X Y E).isSome]):=by
 have PA:=fun (p:M.Ib) (h:aP a b p.1 p.2.1 p.2.2=true) W=>dz a b p.1 p.2.1 p.2.2 X Y E W hg h hp
 have HT:=gS hg hp;unfold gG
 obtain ⟨res,hres⟩:∃ r,kT a X Y E 12 1=r:=⟨_,rfl⟩
 rw [hres];replace hres:=IU hres;replace PA:=IU PA;replace HT:=IU HT
 have hno:=IU fun (f n:Nat) (h:M.JT a X Y E n=none)=>gl (f:=f) h
 have hyes:=IU fun (f n:Nat) (p:M.Ib) (h:M.JT a X Y E n=some p)=>fX (f:=f) h
 have hnext:=IU fun (n:Nat) (p:M.Ib) (h:M.JT a X Y E n=some p)=>fI h
 clear hg hp;obtain ⟨wc,hw3,C,Q,B⟩:=eC w #[a,b] 25 #[X,Y,E] 40;have O:=aG.new wc #[(0:Int),(0:Int),(0:Int)] 40;have Qc:=B.size;have Tc:=Q.lt;replace B:=B.alloc Qc (.cells #[(0:Int),(0:Int),(0:Int)] 40);replace C:=C.alloc (.cells #[(0:Int),(0:Int),(0:Int)] 40);replace Q:=Q.alloc (.cells #[(0:Int),(0:Int),(0:Int)] 40);go_enter func59,ntmps59
 go_wp2;generalize wc.heap.size=ko at *
 go_loopw [7] (fun vi wq=>∃ (j:Nat) (p:M.Ib),1<=j/\j<=13/\vi=.int .i64 j/\Hid (M.JT a X Y E (j - 1)=some p)/\Hid (kT a X Y E (13 - j) j=res)/\Below w w wq/\aG wq ko 40 #[p.1,p.2.1,p.2.2]/\aG wq w 25 #[a,b]/\aG wq (w.heap.size+1) 40 #[X,Y,E]) (fun vi _=>13 - (intOf vi).toNat)
 case atStart=>exact ⟨1,(0,0,0),ω,ω,rfl,IU rfl,hres,B,O,C,Q⟩
 case round=>
 clear B O C Q hres;obtain ⟨j,⟨px,py,pe⟩,hj1,hj,rfl,ht,hres,B,O,C,Q⟩:=hrel
 by_cases hlt:j<=12
 ·obtain ⟨m,hm⟩:∃ m,13 - j=m+1:=⟨12 - j,ω⟩
  have hm2:13 - (j+1)=m:=ω
  rw [hm] at hres;have hnx:=hnext.out _ _ ht.out;rw [show j - 1+1=j from ω] at hnx;replace PA:=PA.out _ (HT.out _ _ ht.out);replace hno:=hno.out m j;replace hyes:=hyes.out m j
  have hj2:j+1 - 1=j:=ω
  dsimp only at hnx PA O
  generalize bB a px py pe X Y E=o3,cJ a px py pe X Y E=E3,dC a px py pe X Y E=Y3,cK a px py pe X Y E=X3 at *;have ⟨c0,c1,_,_,_⟩:=C.box;have ⟨q0,q1,q2⟩:=Q.aM;have ⟨o0,o1,o2⟩:=O.aM;replace PA:=IU PA;clear ht hnext
  cases o3 with
  | false=>
   obtain rfl:=hres.out.symm.trans (hno (hnx.trans (if_neg δ)));clear hno hyes hres hnx
   go_wp2_with (go_at_call 50;with_reducible refine p_ (PA.out _) fun w4 hb4=>?_;have Ji:=(j_ B hb4).size;replace B:=(j_ B hb4).alloc Ji (.cells #[X3,Y3,E3] 40))
   go_ret2;exact ⟨rfl,B⟩
  | true=>
  replace hnx:=hnx.trans (if_pos rfl);have hst:=hres.out.symm.trans (hyes _ hnx)
  dsimp only at hst
  replace hnx:=IU hnx;clear hno hyes hres
  by_cases he:E3=0
  ·obtain rfl:=hst.trans (if_pos he)
   clear hst hm hm2;subst he
   go_wp2_with (go_at_call 50;with_reducible refine p_ (PA.out _) fun w4 hb4=>?_;have Ji:=(j_ B hb4).size;replace B:=(j_ B hb4).alloc Ji (.cells #[X3,Y3,(0:Int)] 40);have V:=aG.new w4 #[X3,Y3,(0:Int)] 40;(have ⟨v0,v1,v2⟩:=V.aM))
   go_ret2;exact ⟨rfl,B⟩
  have hres:=IU (hst.trans (if_neg he)).symm;rw [←hm2] at hres;rw [←hj2] at hnx;clear hst hm hm2 hj2
  have heb:(E3 == 0)=false:=by simpa using he
  have hol:=O.lt
  go_wp2_with (go_at_call 50;with_reducible refine p_ (PA.out _) fun w4 hb4=>?_;have Ji:=(j_ B hb4).size;replace B:=(j_ B hb4).alloc Ji (.cells #[X3,Y3,E3] 40);replace C:=(C.keep hb4).alloc (.cells #[X3,Y3,E3] 40);replace Q:=(Q.keep hb4).alloc (.cells #[X3,Y3,E3] 40);replace O:=(O.keep hb4).alloc (.cells #[X3,Y3,E3] 40);have V:=aG.new w4 #[X3,Y3,E3] 40;(have ⟨v0,v1,v2⟩:=V.aM);(have ⟨o0,o1,o2,z0,z1,z2⟩:=O.bJ))
  go_roundw
  case rel=>exact ⟨j+1,(X3,Y3,E3),ω,ω,ν,hnx,hres,JW B,O.ou _ _ _,((C.other ω _).other ω _).other ω _,((Q.other ω _).other ω _).other ω _⟩
  case measure=>simp [intOf];omega
 obtain rfl:j=13:=ω
 obtain rfl:res=none:=hres.out.symm;go_wp2;go_ret2;exact ⟨rfl,B⟩
end
end Go.Proofs.YtkalaljcbmkbmaaGreat
