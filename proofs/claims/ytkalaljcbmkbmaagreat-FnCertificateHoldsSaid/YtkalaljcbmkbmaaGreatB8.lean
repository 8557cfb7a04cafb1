/-
  Joined texts: contracts and plain lemmas.
-/
import Derived.Test.YtkalaljcbmkbmaaGreatB1
import Derived.Test.YtkalaljcbmkbmaaGreatB7
import Derived.Test.YtkalaljcbmkbmaaGreatB2
import Derived.Deep.DeepCutAuto
import Derived.Deep.RegionWith
set_option linter.unusedSimpArgs false
set_option linter.unusedVariables false
set_option maxRecDepth 100000
set_option maxHeartbeats 8000000
namespace Go.Proofs.YtkalaljcbmkbmaaGreat
section
namespace Dt
def sm:Nat->(Nat->Int)->Int
 | 0,_=>0
 | n+1,f=>sm n f+f n
def sg (c:Nat):Int:=if c % 2=0 then 1 else -1
def skip (c j:Nat):Nat:=if j<c then j else j+1
def un (c j:Nat):Nat:=if j<c then j else j - 1
def mn (m:Nat->Nat->Int) (c:Nat):Nat->Nat->Int:=fun i j=>m (i+1) (skip c j)
def Dq:Nat->(Nat->Nat->Int)->Int
 | 0,_=>1
 | k+1,m=>sm (k+1) fun c=>sg c*(m 0 c*Dq k (mn m c))
def col (m:Nat->Nat->Int) (j:Nat) (b:Nat->Int):Nat->Nat->Int:=fun i q=>if q=j then b i else m i q
theorem tQ {f:Nat->Int}:∀ n,(∀ c,c<n->f c=0)->sm n f=0
 | 0,_=>rfl
 | n+1,h=>by
  show sm n f+f n=0
  rw [tQ n fun c hc=>h c (by omega),h n (by omega)];rfl
theorem yA {f g h:Nat->Int} {x y:Int}:∀ n,(∀ c,c<n->f c=x*g c+y*h c)->sm n f=x*sm n g+y*sm n h
 | 0,_=>by simp [sm]
 | n+1,e=>by
  show sm n f+f n=x*(sm n g+g n)+y*(sm n h+h n)
  rw [yA n fun c hc=>e c (by omega),e n (by omega)]
  grind
theorem pB {f:Nat->Int} {j:Nat}:∀ n,j<n->(∀ c,c<n->c≠j->f c=0)->sm n f=f j
 | n+1,hj,h=>by
  show sm n f+f n=f j
  by_cases e:j=n
  ·subst e
   rw [tQ j fun c hc=>h c (by omega) (by omega)];omega
  rw [pB n (by omega) fun c hc hn=>h c (by omega) hn,h n (by omega) (Ne.symm e)];omega
theorem yB {f:Nat->Int} {p:Nat} (h2:f p+f (p+1)=0):∀ n,p+1<n->(∀ c,c<n->c≠p->c≠p+1->f c=0)->sm n f=0
 | n+1,hp,h=>by
  show sm n f+f n=0
  by_cases e:p+1=n
  ·subst e
   rw [pB (f:=f) (j:=p) (p+1) (by omega) fun c hc hn=>h c (by omega) hn (by omega)];exact h2
  rw [yB h2 n (by omega) fun c hc=>h c (by omega),h n (by omega) (by omega) (by omega)];rfl
theorem oJ (m:Nat->Nat->Int) (j:Nat) (b:Nat->Int):mn (col m j b) j=mn m j:=by
 funext i q
 unfold mn col;rw [if_neg];unfold skip
 split <;> omega
theorem rZ (m:Nat->Nat->Int) {j c:Nat} (b:Nat->Int) (h:c≠j):mn (col m j b) c=col (mn m c) (un c j) (fun i=>b (i+1)):=by
 funext i q
 unfold mn col
 have e:skip c q=j ↔ q=un c j:=by
  unfold skip un
  split <;> split <;> omega
 by_cases hq:q=un c j
 ·rw [if_pos (e.2 hq),if_pos hq]
 rw [if_neg (fun x=>hq (e.1 x)),if_neg hq]
theorem Ah {c j k:Nat} (hc:c<k+1) (hj:j<k+1) (h:c≠j):un c j<k:=by
 unfold un
 split <;> omega
theorem iu:∀ (k:Nat) (m:Nat->Nat->Int) (j:Nat) (x y:Int) (u v:Nat->Int),j<k->Dq k (col m j fun i=>x*u i+y*v i)=x*Dq k (col m j u)+y*Dq k (col m j v)
 | k+1,m,j,x,y,u,v,hj=>by
  refine yA (k+1) fun c hc=>?_
  by_cases e:c=j
  ·subst e
   rw [oJ,oJ,oJ];simp only [col,if_true]
   grind
  rw [rZ m _ e,rZ m _ e,rZ m _ e,iu k (mn m c) (un c j) x y _ _ (Ah hc hj e)];simp only [col,if_neg e]
  grind
theorem zy (p:Nat):sg (p+1)=-sg p:=by
 unfold sg
 split <;> split <;> omega
theorem kH:∀ (k:Nat) (m:Nat->Nat->Int) (p:Nat),p+1<k->(∀ i,m i p=m i (p+1))->Dq k m=0
 | k+1,m,p,hp,h=>by
  refine yB (p:=p) ?_ (k+1) hp fun c hc h1 h2=>?_
  ·have e:mn m p=mn m (p+1):=by
    funext i q
    unfold mn skip
    by_cases h1:q<p
    ·rw [if_pos h1,if_pos (by omega)]
    by_cases h2:q=p
    ·subst h2
     rw [if_neg (by omega),if_pos (by omega),h]
    rw [if_neg h1,if_neg (by omega)]
   rw [e,zy,h 0]
   grind
  have e:Dq k (mn m c)=0:=by
   by_cases hcp:p<c
   ·refine kH k (mn m c) p (by omega) fun i=>?_
    unfold mn skip;rw [if_pos hcp,if_pos (by omega),h]
   refine kH k (mn m c) (p - 1) (by omega) fun i=>?_
   unfold mn skip;rw [if_neg (by omega),if_neg (by omega),show p - 1+1=p by omega,h]
  rw [e,Int.mul_zero,Int.mul_zero]
theorem ky (m:Nat->Nat->Int) (j:Nat):col m j (fun i=>m i j)=m:=by
 funext i q
 unfold col
 split
 ·rename_i h;rw [h]
 rfl
theorem kx (m:Nat->Nat->Int) {p q:Nat} (h:p≠q) (u v:Nat->Int):col (col m p u) q v=col (col m q v) p u:=by
 funext i j
 unfold col
 by_cases h1:j=p
 ·subst h1
  rw [if_neg h,if_pos rfl,if_pos rfl]
 by_cases h2:j=q
 ·subst h2;rw [if_pos rfl,if_neg h1,if_pos rfl]
 simp only [if_neg h1,if_neg h2]
theorem wB (k:Nat) (m:Nat->Nat->Int) (p:Nat) (hp:p+1<k) (u v:Nat->Int):Dq k (col (col m p u) (p+1) v)=-Dq k (col (col m p v) (p+1) u):=by
 have ne:p≠p+1:=by omega
 have z:∀ t:Nat->Int,Dq k (col (col m p t) (p+1) t)=0:=fun t=>kH k _ p hp fun i=>by
  simp [col]
 have L1:∀ t:Nat->Int,Dq k (col (col m p fun i=>1*u i+1*v i) (p+1) t)=1*Dq k (col (col m p u) (p+1) t)+1*Dq k (col (col m p v) (p+1) t):=fun t=>by
  rw [kx m ne,kx m ne,kx m ne];exact iu k (col m (p+1) t) p 1 1 u v (by omega)
 have L2:=fun t:Nat->Int=>iu k (col m p t) (p+1) 1 1 u v hp
 have h0:=z fun i=>1*u i+1*v i
 rw [L1,L2,L2,z u,z v] at h0;omega
theorem rH:∀ (d k:Nat) (m:Nat->Nat->Int) (p:Nat),p+d+1<k->(∀ i,m i p=m i (p+d+1))->Dq k m=0
 | 0,k,m,p,hp,h=>kH k m p hp h
 | d+1,k,m,p,hp,h=>by
  have e:=wB k m (p+d+1) (by omega) (fun i=>m i (p+d+1)) (fun i=>m i (p+d+1+1));rw [ky,ky] at e;rw [e,rH d k _ p (by omega) fun i=>?_]
  ·rfl
  unfold col;rw [if_neg (by omega),if_neg (by omega),if_neg (by omega),if_pos rfl];exact h i
theorem f9 (k:Nat) (m:Nat->Nat->Int) (j:Nat) (hj:j<k) (v:Nat->Int) (w:Nat->Nat->Int):∀ n,Dq k (col m j fun i=>sm n fun q=>v q*w i q)=sm n fun q=>v q*Dq k (col m j fun i=>w i q)
 | 0=>by
  have:=iu k m j 0 0 (fun _=>0) (fun _=>0) hj;simp only [Int.zero_mul,Int.add_zero] at this;exact this
 | n+1=>by
  have:=iu k m j 1 (v n) (fun i=>sm n fun q=>v q*w i q) (fun i=>w i n) hj;simp only [Int.one_mul] at this
  show Dq k (col m j fun i=>sm n (fun q=>v q*w i q)+v n*w i n)=sm n (fun q=>v q*Dq k (col m j fun i=>w i q))+v n*Dq k (col m j fun i=>w i n)
  rw [this,f9 k m j hj v w n]
theorem BA (k:Nat) (m:Nat->Nat->Int) (j:Nat) (hj:j<k) (v:Nat->Int):v j*Dq k m=Dq k (col m j fun i=>sm k fun q=>v q*m i q):=by
 rw [f9 k m j hj v m k,pB (j:=j) k hj fun q hq hn=>?_]
 ·rw [ky]
 have e:Dq k (col m j fun i=>m i q)=0:=by
  by_cases h:q<j
  ·exact rH (j - q - 1) k _ q (by omega) fun i=>by
    unfold col;rw [if_neg (by omega),if_pos (by omega)]
  exact rH (q - j - 1) k _ j (by omega) fun i=>by
   unfold col;rw [if_pos rfl,if_neg (by omega),show j+(q - j - 1)+1=q by omega]
 rw [e,Int.mul_zero]
end Dt
end
section
open Go.RowKit
abbrev jK:=Bool × (Option Addr × Nat × Nat) × Bool × (Option Addr × Nat × Nat)
def jK.val (q:jK):Value:=.agg #[q.1,.slice q.2.1.1 q.2.1.2.1 q.2.1.2.2,q.2.2.1,.slice q.2.2.2.1 q.2.2.2.2.1 q.2.2.2.2.2]
def ER:Rw.Enc jK where
 t:=174
 k:=4
 cells:=fun q=>[.bool q.1,.slice q.2.1.1 q.2.1.2.1 q.2.1.2.2,.bool q.2.2.1,.slice q.2.2.2.1 q.2.2.2.2.1 q.2.2.2.2.2]
 len:=fun _=>rfl
 one:=fun x u hu=>by simp only [List.mem_cons,List.not_mem_nil,or_false] at hu;rcases hu with rfl | rfl | rfl | rfl <;> rfl
 pos:=by decide
theorem Ci:(Tryz.prog.info? 174).map (fun i=>(i.zero,i.size,i.bytes))=some (some (.agg #[false,.slice none 0 0,false,.slice none 0 0]),4,64):=by kernel_rfl
theorem Cc:Rw.Fits Tryz.prog ER 168:=⟨Tryz.underlying168,by
 obtain ⟨i0,hi,hz0,hz1,hz2⟩:=info_parts Ci
 exact ⟨i0,_,hi,hz0,hz1,by omega,rfl⟩⟩
theorem aF.sL {W W':World} {b1 b2:Nat} {v sl:Value} {xs:List jK} {ys:List Int} (h:aF W b1 sl ys) (hv:Rw.Own ER W b2 v xs) (hg:W.grownBy W' v.ownBlock):aF W' b1 sl ys:=by
 refine World.ownsRow.kept h hg ?_
 cases hs:sl.ownBlock with
 | none=>exact Or.inl rfl
 | some k=>exact Or.inr fun e=>iC h hv (by decide) k e.symm hs
theorem aG.grown {W W':World} {g:Nat} {T:TypeId} {xs:Array Value} {r:Option Nat} (h:aG W g T xs) (hg:W.grownBy W' r) (hr:r≠some g):aG W' g T xs:=(hg.block g h.lt (fun e=>hr e.symm)).trans h
def Ar (W:World) (n:Nat) (o:M.Out) (v:Value) (en:Bool):Prop:=match o with
 | .inf=>en=true/\∃ A l c,v=.slice A l c
 | .bad=>en=false/\∃ A l c,v=.slice A l c/\l<=n
 | .val x z=>en=false/\Wh.sz x 1000/\Wh.sz z 1000/\∃ (g cap:Nat) (s:Bool) (av:Option Addr) (lv cv:Nat) (r:Bool) (bv:Option Addr) (mv dv:Nat),v=.slice (some ⟨g,0,none⟩) (n+1) cap/\
   W.cell? ⟨g,n*4,none⟩=some (.bool s)/\W.cell? ⟨g,n*4+1,none⟩=some (.slice av lv cv)/\W.cell? ⟨g,n*4+2,none⟩=some (.bool r)/\W.cell? ⟨g,n*4+3,none⟩=some (.slice bv mv dv)/\
   Hid (s=decide (x<0))/\Hid (r=decide (z<0))/\aF W 0 (.slice av lv cv) (Wh.a_ x.natAbs)/\aF W 0 (.slice bv mv dv) (Wh.a_ z.natAbs)
theorem rB (a b X Y E:Int) (n:Nat) (w:World) (hg:M.good a b=true) (hX1:-10000<=X) (hX2:X<=10000) (hE1:0<=E) (hE2:E<=20) (hn:n<=5) :
  Calls Tryz.prog 161 #[.agg #[a,b],.agg #[X,Y,E],.int .i64 (n:Int)] w fun e w'=>∃ v,∃ en:Bool,e=.returned (.tuple #[v,en])/\Ar w' n (M.aZ a b X E n) v en/\Below w.heap.size w w':=by
 have C:=(aG.new w #[a,b] 25).alloc (.cells #[X,Y,E] 40)
 have Q:=(aG.new (w.alloc (.cells #[a,b] 25)) #[X,Y,E] 40)
 rw [DC] at Q;have B:=((DE w.heap.size w).alloc (DF _) (.cells #[a,b] 25)).alloc (by rw [DC];omega) (.cells #[X,Y,E] 40)
 have Fm:w.heap.size+2<=((w.alloc (.cells #[a,b] 25)).alloc (.cells #[X,Y,E] 40)).heap.size:=by rw [DC,DC];omega
 generalize hw3:(w.alloc (.cells #[a,b] 25)).alloc (.cells #[X,Y,E] 40)=wc at *;have ⟨q0,q1,q2⟩:=Q.aO;have e_:=C.box.c0;have f_:=C.box.c1
 by_cases h0:E=0
 ·subst h0
  have hz0:=DB (show M.aZ a b X 0 n=.inf from rfl);go_enter Tryz.func161,Tryz.ntmps161
  go_wp2;exact bodyPost_ret (v:=.tuple #[.slice none 0 0,true]) (by simp [results,Tryz.results161,go_sem, *]) rfl (⟨_,_,rfl,(by rw [hz0.out];exact ⟨rfl,_,_,_,rfl⟩),B⟩)
 have hE:1<=E:=by omega
 have Kv:1<=E*E/\E*E<=400:=⟨by have:=Int.mul_le_mul hE hE (by omega) (by omega);omega,by have:=Int.mul_le_mul hE2 hE2 (by omega) (by omega);omega⟩
 have hE0:(E == 0)=false:=by rw [beq_eq_false_iff_ne];exact h0
 have hout:=DB (show M.aZ a b X E n=M.run a b n (.val X (E*E)) from if_neg h0);clear h0;obtain ⟨e1,e2⟩:=Kv
 have P1:=fun W=>CD X (E*E) W (by omega) (by omega) (by omega) (by omega)
 have zX:Wh.sz X 1000:=Wh.aM (Wh.bP (by omega) (by omega)) (by omega);have zE:Wh.sz (E*E) 1000:=Wh.aM (Wh.bP (by omega) (by omega)) (by omega);have zX:=DB zX;have zE:=DB zE
 have hb2:-10000<=b/\b<=10000:=⟨(M.ag (M.aj hg)).2.2.1,(M.ag (M.aj hg)).2.2.2⟩
 have ha2:-1000<=a/\a<=1000:=⟨(M.ag (M.aj hg)).1,(M.ag (M.aj hg)).2.1⟩
 obtain ⟨hb1,hb2⟩:=hb2;obtain ⟨ha1,ha2⟩:=ha2;have hg:=DB hg
 have PG:=DB fun (x z:Int) (s r:Bool) v v' W k k' (h1:aF W k v (Wh.a_ x.natAbs)) (h2:aF W k' v' (Wh.a_ z.natAbs)) (hx:Wh.sz x 1000) (hz:Wh.sz z 1000) (hs:s=decide (x<0)) (hr:r=decide (z<0))=>(hs ▸ hr ▸ lw a b x z v v' W k k' h1 h2 hx hz ha1 ha2 hb1 hb2:Calls Tryz.prog 173 #[.agg #[a,b],.agg #[s,v,r,v']] W fun e w'=>∃ sl,e=.returned (.agg #[decide (Wh.af a b x z<0),sl])/\ae w' W.heap.size sl (Wh.af a b x z)/\Below W.heap.size W w')
 have PD:=DB fun (x z:Int) (s r:Bool) v v' W k k' (h1:aF W k v (Wh.a_ x.natAbs)) (h2:aF W k' v' (Wh.a_ z.natAbs)) (hx:Wh.sz x 1000) (hz:Wh.sz z 1000) (hs:s=decide (x<0)) (hr:r=decide (z<0))=>(hs ▸ hr ▸ rv a b x z v v' W k k' hg.out h1 h2 hx hz:Calls Tryz.prog 174 #[.agg #[a,b],.agg #[s,v,r,v']] W fun e w'=>∃ v1 v2,e=.returned (.tuple #[.agg #[decide (Wh.E5 (M.aS a b) (Wh.am a b x z) (Wh.af a b x z)<0),v1,decide (Wh.E6 (M.aS a b) (Wh.am a b x z) (Wh.af a b x z)<0),v2],Wh.eB (M.aS a b) (Wh.am a b x z) (Wh.af a b x z)])/\ae w' W.heap.size v1 (Wh.E5 (M.aS a b) (Wh.am a b x z) (Wh.af a b x z))/\ae w' W.heap.size v2 (Wh.E6 (M.aS a b) (Wh.am a b x z) (Wh.af a b x z))/\Below W.heap.size W w')
 clear ha1 ha2 hb1 hb2
 have Ps:=fun q A L C W=>jy q A L C W
 have GA:=DB (show M.run a b 0 (.val X (E*E))=.val X (E*E) from rfl);generalize hZ:E*E=Z at *;replace hZ:=DB hZ;generalize hs1:decide (X<0)=s1 at *;generalize hs2:decide (Z<0)=s2 at *;replace hs1:=DB hs1.symm;replace hs2:=DB hs2.symm;have P1:=DB P1;have hQ:=DB Q;have hZE:=hZ.out;go_enter Tryz.func161,Tryz.ntmps161
 go_wp2_with (go_at_call 172;(with_reducible refine (P1.out _).mono ?_);rintro e w4 ⟨v4,u4,rfl,DS,LF,hb4⟩;obtain ⟨a4,c4,rfl,Db,DR⟩:=aF.view DS;clear Db DR;obtain ⟨b4,d4,rfl,Db,DR⟩:=aF.view LF;clear Db DR;(generalize (Wh.a_ X.natAbs).length=l4 at *);(generalize (Wh.a_ Z.natAbs).length=m4 at *);replace C:=C.keep hb4;replace B:=d_ B hb4;(replace ⟨e_,f_⟩:=C.b2))
 have D7:w.heap.size+2<=w4.heap.size:=Nat.le_trans Fm hb4.size;have L:=Rw.Own.Cj ER ((s1,(a4,l4,c4),s2,(b4,m4,d4)):jK) w4 (w.heap.size+2) D7;have ox:=aF.base (aF.alloc (show aF _ _ _ _ from DS) (.cells #[s1,.slice a4 l4 c4,s2,.slice b4 m4 d4] 174)) (Nat.zero_le _);have oz:=aF.base (aF.alloc (show aF _ _ _ _ from LF) (.cells #[s1,.slice a4 l4 c4,s2,.slice b4 m4 d4] 174)) (Nat.zero_le _);have C2:=C.alloc (.cells #[s1,.slice a4 l4 c4,s2,.slice b4 m4 d4] 174);have B2:=B.alloc B.size (.cells #[s1,.slice a4 l4 c4,s2,.slice b4 m4 d4] 174);have L:=DB L;have ox:=DB ox;have oz:=DB oz;clear DS LF C B e_ f_ q0 q1 q2 Q hQ hb4 P1 Fm hZE
 go_loopw [2,8] (fun vi vl wr=>∃ (k:Nat) (x z:Int) (xs:List jK) (q:jK),k<=n/\vi=.int .i64 ((n - k:Nat):Int)/\Hid (M.run a b k (.val X Z)=.val x z)/\Rw.Own ER wr (w.heap.size+2) vl xs/\Hid (xs.length=k+1)/\Hid (xs[k]?=some q)/\aF wr 0 (.slice q.2.1.1 q.2.1.2.1 q.2.1.2.2) (Wh.a_ x.natAbs)/\aF wr 0 (.slice q.2.2.2.1 q.2.2.2.2.1 q.2.2.2.2.2) (Wh.a_ z.natAbs)/\Hid (q.1=decide (x<0))/\Hid (q.2.2.1=decide (z<0))/\Wh.sz x 1000/\Wh.sz z 1000/\aG wr w.heap.size 25 #[a,b]/\Below w.heap.size w wr/\w.heap.size+2<=wr.heap.size) (fun vi _ _=>(intOf vi).toNat)
 case atStart=>exact ⟨0,X,Z,[((s1,(a4,l4,c4),s2,(b4,m4,d4)):jK)],((s1,(a4,l4,c4),s2,(b4,m4,d4)):jK),Nat.zero_le _,rfl,GA,L.out,DB rfl,DB rfl,ox.out,oz.out,hs1,hs2,zX.out,zE.out,C2,B2,by rw [DC];omega⟩
 case round=>
 clear L ox oz C2 B2 GA hs1 hs2 zX zE D7;obtain ⟨k,x,z,xs,q,hk,rfl,hrun,L,hlen,hq,ox,oz,hs,hr,zx,zz,C,B,hz⟩:=hrel;obtain ⟨s,⟨av,lv,cv⟩,r,⟨bv,mv,dv⟩⟩:=q
 dsimp only at ox oz hs hr
 rcases L.forms with ⟨rfl,rfl⟩ | ⟨g,cap,rfl,hg1,hg2,hcp1,hcp2⟩
 ·exact absurd hlen.out (by simp)
 have hcl:=fun i u (hu:(ER.cells (s,(av,lv,cv),r,(bv,mv,dv)))[i]?=some u) (hi:i<4)=>Rw.Own.cellAt rfl L (k*4+i) u ((Rw.flat_get ER xs k i _ hq.out hi).trans hu)
 have JD:wr.cell? ⟨g,k*4,none⟩=some (.bool s):=(hcl 0 _ rfl (by omega)).1;have JE:wr.cell? ⟨g,k*4+1,none⟩=some (.slice av lv cv):=(hcl 1 _ rfl (by omega)).1;have JF:wr.cell? ⟨g,k*4+2,none⟩=some (.bool r):=(hcl 2 _ rfl (by omega)).1;have JG:wr.cell? ⟨g,k*4+3,none⟩=some (.slice bv mv dv):=(hcl 3 _ rfl (by omega)).1;clear hcl;have hlen1:=hlen.out;rw [hlen1] at hcp1 L ⊢;have ox:=DB ox;have oz:=DB oz;have zx:=DB zx;have zz:=DB zz;have L:=DB L;have e_:=C.box.c0;have f_:=C.box.c1;clear hlen1
 by_cases hlt:k<n
 ·obtain ⟨j,hj⟩:∃ j:Nat,n - k=j+1:=⟨n - k - 1,by omega⟩
  have hj2:=DB (show n - (k+1)=j by omega)
  have hjb:(j:Int)<=4:=by omega
  rw [hj];clear hj
  have Im:=DB fun v v' W i j h1 h2=>PG.out x z s r v v' W i j h1 h2 zx.out zz.out hs.out hr.out
  have E4:=DB fun v v' W i j h1 h2=>PD.out x z s r v v' W i j h1 h2 zx.out zz.out hs.out hr.out
  have hnx:M.run a b (k+1) (.val X Z)=M.nx a b (.val x z):=by show M.nx a b (M.run a b k (.val X Z))=_;rw [hrun.out]
  unfold M.nx at hnx
  dsimp only at hnx
  clear PG PD hs hr
  have FC:=fun h=>Wh.lW (Wh.k8 (D:=M.aS a b) (F:=Wh.am a b x z) (G:=Wh.af a b x z) h)
  have H3:Wh.eB (M.aS a b) (Wh.am a b x z) (Wh.af a b x z)=true->Wh.E5 (M.aS a b) (Wh.am a b x z) (Wh.af a b x z)=Wh.GL (M.aS a b) (Wh.am a b x z) (Wh.af a b x z)/\Wh.E6 (M.aS a b) (Wh.am a b x z) (Wh.af a b x z)=Wh.GK (M.aS a b) (Wh.am a b x z) (Wh.af a b x z):=fun h=>by unfold Wh.E5 Wh.E6;rw [if_pos h,if_pos h];exact ⟨rfl,rfl⟩
  generalize Wh.eB (M.aS a b) (Wh.am a b x z) (Wh.af a b x z)=ok,Wh.GK (M.aS a b) (Wh.am a b x z) (Wh.af a b x z)=dd,Wh.GL (M.aS a b) (Wh.am a b x z) (Wh.af a b x z)=nn,Wh.E6 (M.aS a b) (Wh.am a b x z) (Wh.af a b x z)=z',Wh.E5 (M.aS a b) (Wh.am a b x z) (Wh.af a b x z)=x' at *;have hG0:=@Wh.fX (Wh.af a b x z);generalize Wh.af a b x z=G at *;generalize decide (G<0)=sg at *;have N:=aG.new wr #[s,.slice av lv cv,r,.slice bv mv dv] 174;have C3:=C.alloc (.cells #[s,.slice av lv cv,r,.slice bv mv dv] 174);have Fd:=DB (aF.alloc ox.out (.cells #[s,.slice av lv cv,r,.slice bv mv dv] 174));have Fe:=DB (aF.alloc oz.out (.cells #[s,.slice av lv cv,r,.slice bv mv dv] 174));have L3:=DB (Rw.Own.alloc L.out (.cells #[s,.slice av lv cv,r,.slice bv mv dv] 174));have B3:=B.alloc B.size (.cells #[s,.slice av lv cv,r,.slice bv mv dv] 174);have FH:=C3.box.c0;have FI:=C3.box.c1;have Ft:=N.aL.c0;have Fu:=N.aL.c1;have Fv:=N.aL.c2;have Fw:=N.aL.c3
  by_cases hG:G=0
  ·rw [if_pos hG] at hnx
   have hfin:=DB (M.ov hnx n (by omega));have hl0:=hG0.2 hG;clear hnx hG hG0 FC H3 E4;generalize JO:(Wh.a_ G.natAbs).length=lg at *;subst hl0;replace JO:=DB JO
   go_wp2_with (go_at_call 173;(with_reducible refine (Im.out _ _ _ _ _ Fd.out Fe.out).mono ?_);rintro e w4 ⟨v4,rfl,DS,hb4⟩;obtain ⟨a4,c4,rfl,Db,DR⟩:=aF.view DS;clear Db DR;(rw [JO.out] at DS ⊢);replace C3:=C3.keep hb4;replace N:=N.keep hb4;replace B3:=d_ B3 hb4;(replace ⟨FH,FI⟩:=C3.b2);(replace ⟨Ft,Fu,Fv,Fw⟩:=N.b4))
   exact bodyPost_ret (v:=.tuple #[.slice (some ⟨g,0,none⟩) (k+1) cap,true]) (by simp [results,Tryz.results161,go_sem, *]) rfl (⟨_,_,rfl,(by rw [hout.out,hfin.out];exact ⟨rfl,_,_,_,rfl⟩),B3⟩)
  rw [if_neg hG] at hnx
  have hl0:¬ (Wh.a_ G.natAbs).length=0:=fun h=>hG (hG0.1 h)
  have hlq:(((Wh.a_ G.natAbs).length:Int) == 0)=false:=by rw [beq_eq_false_iff_ne];omega
  clear hG hG0
  cases ok with
  | false=>
   have hfin:=DB (M.ou hnx n (by omega));clear hnx FC H3;generalize decide (z'<0)=r',decide (x'<0)=s' at *
   go_wp2_with (first
    | (go_at_call 173;(with_reducible refine (Im.out _ _ _ _ _ Fd.out Fe.out).mono ?_);rintro e w4 ⟨v4,rfl,DS,hb4⟩;obtain ⟨a4,c4,rfl,Db,DR⟩:=aF.view DS;clear Db DR DS;(generalize (Wh.a_ G.natAbs).length=lg at *);replace L3:=DB (Rw.Own.below L3.out hb4);replace C3:=C3.keep hb4;replace N:=N.keep hb4;replace Fd:=kO Fd hb4;replace Fe:=kO Fe hb4;replace B3:=d_ B3 hb4;(replace ⟨FH,FI⟩:=C3.b2);(replace ⟨Ft,Fu,Fv,Fw⟩:=N.b4))
    | (go_at_call 174;(with_reducible refine (E4.out _ _ _ _ _ Fd.out Fe.out).mono ?_);rintro e w5 ⟨v5,u5,rfl,Dw,FZ,hb5⟩;replace C3:=C3.keep hb5;replace N:=N.keep hb5;replace Fd:=kO Fd hb5;replace Fe:=kO Fe hb5;replace B3:=d_ B3 hb5;replace L3:=DB (Rw.Own.below L3.out hb5);obtain ⟨a5,c5,rfl,Db,DR⟩:=aF.view Dw;clear Db DR;obtain ⟨b5,d5,rfl,Db,DR⟩:=aF.view FZ;clear Db DR;have on:=DB (aF.alloc (show aF _ _ _ _ from Dw) (.cells #[s',.slice a5 (Wh.a_ x'.natAbs).length c5,r',.slice b5 (Wh.a_ z'.natAbs).length d5] 174));have om:=DB (aF.alloc (show aF _ _ _ _ from FZ) (.cells #[s',.slice a5 (Wh.a_ x'.natAbs).length c5,r',.slice b5 (Wh.a_ z'.natAbs).length d5] 174));clear Dw FZ;(generalize (Wh.a_ x'.natAbs).length=l5 at *);(generalize (Wh.a_ z'.natAbs).length=m5 at *);replace L3:=DB (Rw.Own.alloc L3.out (.cells #[s',.slice a5 l5 c5,r',.slice b5 m5 d5] 174));have M_:=aG.new w5 #[s',.slice a5 l5 c5,r',.slice b5 m5 d5] 174;have b_:=bA w5 (.cells #[s',.slice a5 l5 c5,r',.slice b5 m5 d5] 174);replace C3:=C3.keep b_;replace N:=N.keep b_;replace Fd:=kO Fd b_;replace Fe:=kO Fe b_;replace B3:=d_ B3 b_;clear b_;(replace ⟨FH,FI⟩:=C3.b2);(replace ⟨Ft,Fu,Fv,Fw⟩:=N.b4);(replace ⟨KN,KO,KQ,KR⟩:=M_.b4)))
   exact bodyPost_ret (v:=.tuple #[.slice (some ⟨g,0,none⟩) (k+1) cap,false]) (by simp [results,Tryz.results161,go_sem, *]) rfl (⟨_,_,rfl,(by rw [hout.out,hfin.out];exact ⟨rfl,_,_,_,rfl,by omega⟩),B3⟩)
  | true=>
  rw [if_pos rfl] at hnx;obtain ⟨hxn,hzn⟩:=H3 rfl;obtain ⟨zn,zd⟩:=FC rfl;subst hxn hzn;clear H3 FC;have zn:=DB zn;have zd:=DB zd;have hnx:=DB hnx;generalize hs5:decide (x'<0)=s' at *;generalize JT:decide (z'<0)=r' at *;replace hs5:=DB hs5.symm;replace JT:=DB JT.symm;clear hrun zx zz
  go_wp2_with (first
   | (go_at_call 173;(with_reducible refine (Im.out _ _ _ _ _ Fd.out Fe.out).mono ?_);rintro e w4 ⟨v4,rfl,DS,hb4⟩;obtain ⟨a4,c4,rfl,Db,DR⟩:=aF.view DS;clear Db DR DS;(generalize (Wh.a_ G.natAbs).length=lg at *);replace L3:=DB (Rw.Own.below L3.out hb4);replace C3:=C3.keep hb4;replace N:=N.keep hb4;replace Fd:=kO Fd hb4;replace Fe:=kO Fe hb4;replace B3:=d_ B3 hb4;(replace ⟨FH,FI⟩:=C3.b2);(replace ⟨Ft,Fu,Fv,Fw⟩:=N.b4))
   | (go_at_call 174;(with_reducible refine (E4.out _ _ _ _ _ Fd.out Fe.out).mono ?_);rintro e w5 ⟨v5,u5,rfl,Dw,FZ,hb5⟩;replace C3:=C3.keep hb5;replace N:=N.keep hb5;replace Fd:=kO Fd hb5;replace Fe:=kO Fe hb5;replace B3:=d_ B3 hb5;replace L3:=DB (Rw.Own.below L3.out hb5);obtain ⟨a5,c5,rfl,Db,DR⟩:=aF.view Dw;clear Db DR;obtain ⟨b5,d5,rfl,Db,DR⟩:=aF.view FZ;clear Db DR;have on:=DB (aF.alloc (show aF _ _ _ _ from Dw) (.cells #[s',.slice a5 (Wh.a_ x'.natAbs).length c5,r',.slice b5 (Wh.a_ z'.natAbs).length d5] 174));have om:=DB (aF.alloc (show aF _ _ _ _ from FZ) (.cells #[s',.slice a5 (Wh.a_ x'.natAbs).length c5,r',.slice b5 (Wh.a_ z'.natAbs).length d5] 174));clear Dw FZ;(generalize (Wh.a_ x'.natAbs).length=l5 at *);(generalize (Wh.a_ z'.natAbs).length=m5 at *);replace L3:=DB (Rw.Own.alloc L3.out (.cells #[s',.slice a5 l5 c5,r',.slice b5 m5 d5] 174));have M_:=aG.new w5 #[s',.slice a5 l5 c5,r',.slice b5 m5 d5] 174;have b_:=bA w5 (.cells #[s',.slice a5 l5 c5,r',.slice b5 m5 d5] 174);replace C3:=C3.keep b_;replace N:=N.keep b_;replace Fd:=kO Fd b_;replace Fe:=kO Fe b_;replace B3:=d_ B3 b_;clear b_;(replace ⟨FH,FI⟩:=C3.b2);(replace ⟨Ft,Fu,Fv,Fw⟩:=N.b4);(replace ⟨KN,KO,KQ,KR⟩:=M_.b4))
   | (at_builtin;refine Rw.xY Cc (w.heap.size+2) [((s',(a5,l5,c5),r',(b5,m5,d5)):jK)] xs _ ⟨w5.heap.size+1,0,none⟩ 1 1 (by rfl) (by rfl) (.tmp 50) (.tmp 52) (by rfl) (by rfl) (by rfl) (Rw.From.lit ER _ ((s',(a5,l5,c5),r',(b5,m5,d5)):jK) (w5.heap.size+1) (DC _ _)) (by have:=Rw.Own.alloc L3.out (.cells #[s',.slice a5 l5 c5,r',.slice b5 m5 d5] 174);exact this) (by have h1_:=hb4.size;have h2_:=hb5.size;(try simp only [DC] at h1_ h2_ ⊢);omega) (by rw [hlen.out];simp;omega) ?_;intro v6 w6 hown6 FF JH;have C6:=aG.grown (C3.alloc (.cells #[s',.slice a5 l5 c5,r',.slice b5 m5 d5] 174)) FF (fun e=>by have e2:g=w.heap.size:=Option.some.inj e;omega);have on6:=DB (aF.sL (aF.alloc on.out (.cells #[s',.slice a5 l5 c5,r',.slice b5 m5 d5] 174)) (Rw.Own.alloc L3.out (.cells #[s',.slice a5 l5 c5,r',.slice b5 m5 d5] 174)) FF);have om6:=DB (aF.sL (aF.alloc om.out (.cells #[s',.slice a5 l5 c5,r',.slice b5 m5 d5] 174)) (Rw.Own.alloc L3.out (.cells #[s',.slice a5 l5 c5,r',.slice b5 m5 d5] 174)) FF);have B6:=Below.grown (B3.alloc B3.size (.cells #[s',.slice a5 l5 c5,r',.slice b5 m5 d5] 174)) FF (B3.alloc B3.size (.cells #[s',.slice a5 l5 c5,r',.slice b5 m5 d5] 174)).size (fun k_ hk_=>by have e2:g=k_:=Option.some.inj hk_;omega);have hown6:=DB hown6;have KG:=FF.size;have Qy:=hb4.size;have Qz:=hb5.size))
  go_roundw
  case rel=>exact ⟨k+1,x',z',xs ++ [((s',(a5,l5,c5),r',(b5,m5,d5)):jK)],((s',(a5,l5,c5),r',(b5,m5,d5)):jK),by omega,(by first | (rw [hj2.out];done) | (rw [hj2.out];go_num)),hnx,hown6.out,DB (by rw [List.length_append,hlen.out];rfl),DB (by rw [List.getElem?_append_right (by rw [hlen.out];omega),hlen.out,Nat.sub_self];rfl),aF.base on6.out (Nat.zero_le _),aF.base om6.out (Nat.zero_le _),hs5,JT,zn.out,zd.out,C6,B6,by (try simp only [DC] at KG Qy Qz);omega⟩
  case measure=>simp [intOf] <;> omega
 obtain rfl:k=n:=by omega
 rw [Nat.sub_self];go_wp2;exact bodyPost_ret (v:=.tuple #[.slice (some ⟨g,0,none⟩) (k+1) cap,false]) (by simp [results,Tryz.results161,go_sem, *]) rfl (⟨_,_,rfl,(by rw [hout.out,hrun.out];exact ⟨rfl,zx.out,zz.out,g,cap,s,av,lv,cv,r,bv,mv,dv,rfl,JD,JE,JF,JG,hs,hr,ox.out,oz.out⟩),B⟩)
noncomputable def Hc (n d:Int):Bool:=eO (b9 n d) (bK n d)
theorem iL (a b:Int) (w:World) (h1:-4000000000000000000<=a) (h2:a<=4000000000000000000) (h3:-4000000000000000000<=b) (h4:b<=4000000000000000000) :
  Calls Tryz.prog 52 #[.int .i64 (a.natAbs:Int),.int .i64 (b.natAbs:Int)] w fun e w'=>e=.returned (.int .i64 (M.gcd a b))/\w=w':=by
 rw [show M.gcd a b=M.gcd a.natAbs b.natAbs from by simp [M.gcd,Int.gcd]];exact dK _ _ _ (by omega) (by omega) (by omega) (by omega)
theorem wN (n d:Int) (w:World) (h1:-4000000000000000000<=n) (h2:n<=4000000000000000000) (h3:-4000000000000000000<=d) (h4:d<=4000000000000000000) (h0:d≠0) :
  Calls Tryz.prog 152 #[n,d] w fun e w'=>e=.returned (.tuple #[.agg #[M.pick (Hc (n) (d)) (b9 (n) (d)),M.pick (Hc (n) (d)) (bK (n) (d))],Hc (n) (d)]:Value)/\Below w.heap.size w w':=by
 have g1:=nt (a:=n) h0;have g2:=wP (a:=n) h0;have t1:=fQ (a:=n) (d:=M.gcd n d) h1 h2 (by omega);have t2:=fQ (a:=d) (d:=M.gcd n d) h3 h4 (by omega)
 have E:=fun w=>lG (b9 n d) (bK n d) w
 unfold Hc
 by_cases hn:d<0
 ·rw [fg hn,ff hn] at E ⊢
  cases hok:eO (-n.tdiv (M.gcd n d)) (-d.tdiv (M.gcd n d)) <;> simp only [hok] at E <;> have E:=DB E
  all_goals
   have w1:=IntWalk.i64_in (-n.tdiv (M.gcd n d)) (by omega);have w2:=IntWalk.i64_in (-d.tdiv (M.gcd n d)) (by omega)
   have hg0:¬ -M.gcd n d=0:=by omega
   go_enter Tryz.func152,Tryz.ntmps152
   go_wp2_with (first | (go_at_call 53;refine (dH _ _ (by omega) (by omega)).mono ?_;rintro e w' ⟨rfl,rfl⟩) | (go_at_call 52;refine (iL n d _ h1 h2 h3 h4).mono ?_;rintro e w' ⟨rfl,rfl⟩))
   go_region
   all_goals
    clear w1 w2
    go_wp2_with (go_at_call 101;refine (E.out _).mono ?_;rintro e w' ⟨rfl,hb⟩;have Jf:=hb.size;(try simp only [DC,aP,World.heap_drewN,aK] at Jf);have LK:w.heap.size<w'.heap.size:=(by omega);have Pz:=fun o=>(iK hb).1 (w.heap.size) o (by (try simp only [DC,aP,World.heap_drewN,aK]);omega);have QE:=fun o=>(iK hb).2.1 (w.heap.size) o (by (try simp only [DC,aP,World.heap_drewN,aK]);omega);have QR:w.heap.size+1<w'.heap.size:=(by omega);have QC:=fun o=>(iK hb).1 (w.heap.size+1) o (by (try simp only [DC,aP,World.heap_drewN,aK]);omega);have QF:=fun o=>(iK hb).2.1 (w.heap.size+1) o (by (try simp only [DC,aP,World.heap_drewN,aK]);omega))
    first
     | (refine bodyPost_ret (v:=.tuple #[.agg #[(0:Int),(0:Int)],false]) ?_ rfl ?_;(· (simp [results,Tryz.results152,go_sem, *];done));(· (refine ⟨?_,(by repeat (first | exact DE _ _ | refine aQ ?_ _ | refine aR ?_ (by assumption) | refine Below.drew ?_ | refine DD ?_ (by first | exact DF _ | exact Nat.le_add_right _ _ | (simp <;> omega)) _ | refine aN ?_ _))⟩;(simp [M.jd];done))))
     | (refine bodyPost_ret (v:=.tuple #[.agg #[(-n.tdiv (M.gcd n d):Int),(-d.tdiv (M.gcd n d):Int)],true]) ?_ rfl ?_;(· (simp [results,Tryz.results152,go_sem, *];done));(· (refine ⟨?_,(by repeat (first | exact DE _ _ | refine aQ ?_ _ | refine aR ?_ (by assumption) | refine Below.drew ?_ | refine DD ?_ (by first | exact DF _ | exact Nat.le_add_right _ _ | (simp <;> omega)) _ | refine aN ?_ _))⟩;(simp [M.gh];done))))
 rw [dP (by omega),dO (by omega)] at E ⊢
 cases hok:eO (n.tdiv (M.gcd n d)) (d.tdiv (M.gcd n d)) <;> simp only [hok] at E <;> have E:=DB E
 all_goals
  have w1:=IntWalk.i64_in (n.tdiv (M.gcd n d)) (by omega);have w2:=IntWalk.i64_in (d.tdiv (M.gcd n d)) (by omega)
  have hg0:¬ M.gcd n d=0:=by omega
  go_enter Tryz.func152,Tryz.ntmps152
  go_wp2_with (first | (go_at_call 53;refine (dH _ _ (by omega) (by omega)).mono ?_;rintro e w' ⟨rfl,rfl⟩) | (go_at_call 52;refine (iL n d _ h1 h2 h3 h4).mono ?_;rintro e w' ⟨rfl,rfl⟩))
  go_region
  all_goals
   clear w1 w2
   go_wp2_with (go_at_call 101;refine (E.out _).mono ?_;rintro e w' ⟨rfl,hb⟩;have Jf:=hb.size;(try simp only [DC,aP,World.heap_drewN,aK] at Jf);have LK:w.heap.size<w'.heap.size:=(by omega);have Pz:=fun o=>(iK hb).1 (w.heap.size) o (by (try simp only [DC,aP,World.heap_drewN,aK]);omega);have QE:=fun o=>(iK hb).2.1 (w.heap.size) o (by (try simp only [DC,aP,World.heap_drewN,aK]);omega);have QR:w.heap.size+1<w'.heap.size:=(by omega);have QC:=fun o=>(iK hb).1 (w.heap.size+1) o (by (try simp only [DC,aP,World.heap_drewN,aK]);omega);have QF:=fun o=>(iK hb).2.1 (w.heap.size+1) o (by (try simp only [DC,aP,World.heap_drewN,aK]);omega))
   first
    | (refine bodyPost_ret (v:=.tuple #[.agg #[(0:Int),(0:Int)],false]) ?_ rfl ?_;(· (simp [results,Tryz.results152,go_sem, *];done));(· (refine ⟨?_,(by repeat (first | exact DE _ _ | refine aQ ?_ _ | refine aR ?_ (by assumption) | refine Below.drew ?_ | refine DD ?_ (by first | exact DF _ | exact Nat.le_add_right _ _ | (simp <;> omega)) _ | refine aN ?_ _))⟩;(simp [M.jd];done))))
    | (refine bodyPost_ret (v:=.tuple #[.agg #[n.tdiv (M.gcd n d),d.tdiv (M.gcd n d)],true]) ?_ rfl ?_;(· (simp [results,Tryz.results152,go_sem, *];done));(· (refine ⟨?_,(by repeat (first | exact DE _ _ | refine aQ ?_ _ | refine aR ?_ (by assumption) | refine Below.drew ?_ | refine DD ?_ (by first | exact DF _ | exact Nat.le_add_right _ _ | (simp <;> omega)) _ | refine aN ?_ _))⟩;(simp [M.gh];done))))
namespace M
noncomputable def EF (n d:Int):Option (Int × Int):=if Hc n d then some (b9 n d,bK n d) else none
def fN (r:Option (Int × Int)):Int:=(r.getD (0,0)).1
def fD (r:Option (Int × Int)):Int:=(r.getD (0,0)).2
theorem BM (n d:Int):(.tuple #[.agg #[M.pick (Hc (n) (d)) (b9 (n) (d)),M.pick (Hc (n) (d)) (bK (n) (d))],Hc (n) (d)]:Value)=.tuple #[.agg #[fN (EF n d),fD (EF n d)],.bool (EF n d).isSome]:=by
 unfold EF
 cases h:Hc n d <;> simp [M.jd,M.gh,fN,fD]
theorem nk {n d:Int} (h:eO n d=true):-1000000000<=n/\n<=1000000000/\1<=d/\d<=1000000000:=by
 unfold eO at h;simp only [Bool.and_eq_true] at h;have h1:=M.gK h.1.1;have h2:=M.gK h.1.2;omega
end M
theorem pw (n d:Int) (w:World) (h1:-4000000000000000000<=n) (h2:n<=4000000000000000000) (h3:-4000000000000000000<=d) (h4:d<=4000000000000000000) (h0:d≠0) :
  Calls Tryz.prog 152 #[n,d] w fun e w'=>e=.returned (.tuple #[.agg #[M.fN (M.EF n d),M.fD (M.EF n d)],.bool (M.EF n d).isSome])/\Below w.heap.size w w':=by
 rw [←M.BM];exact wN n d w h1 h2 h3 h4 h0
theorem yl (n:Int) (w:World) :
  Calls Tryz.prog 119 #[n] w fun e w'=>e=.returned (.agg #[n,(1:Int)])/\Below w.heap.size w w':=by
 go_enter Tryz.func119,Tryz.ntmps119
 go_wp2;exact bodyPost_ret (v:=.agg #[n,(1:Int)]) (by simp [results,Tryz.results119,go_sem, *]) rfl (⟨rfl,(by repeat (first | exact DE _ _ | refine aQ ?_ _ | refine aR ?_ (by assumption) | refine Below.drew ?_ | refine DD ?_ (by first | exact DF _ | exact Nat.le_add_right _ _ | (simp <;> omega)) _ | refine aN ?_ _))⟩)
namespace M
noncomputable def pn (a:Int):Int:=fN (EF a 4096)
noncomputable def pd (a:Int):Int:=fD (EF a 4096)
def aJ (lo hi:Int):Bool:=decide (lo<=hi) && decide (-409600000<=lo) && decide (hi<=409600000)
theorem bj {lo hi:Int} (h:aJ lo hi=true):lo<=hi/\-409600000<=lo/\hi<=409600000:=by
 unfold aJ at h;simp only [Bool.and_eq_true,decide_eq_true_eq] at h;exact ⟨h.1.1,h.1.2,h.2⟩
theorem sj (a:Int):∃ g q n:Int,M.gcd a 4096=g/\1<=g/\g<=4096/\4096=g*q/\1<=q/\q<=4096/\a=n*g:=by
 have h1:(M.gcd a 4096) ∣ 4096:=Int.gcd_dvd_right ..;have h2:(M.gcd a 4096) ∣ a:=Int.gcd_dvd_left ..;have h3:=nt (a:=a) (b:=4096) (by decide);obtain ⟨q,hq⟩:=h1;obtain ⟨n,hn⟩:=h2;generalize M.gcd a 4096=g at *
 have hq1:1<=q:=by
  rcases Int.lt_or_le q 1 with h | h
  ·have:=Int.mul_nonpos_of_nonneg_of_nonpos (a:=g) (b:=q) (by omega) (by omega)
   omega
  exact h
 have hg:g<=4096:=Int.le_of_dvd (by decide) ⟨q,hq⟩;have hq2:q<=4096:=Int.le_of_dvd (by decide) ⟨g,by rw [Int.mul_comm];exact hq⟩;exact ⟨g,q,n,rfl,by omega,hg,hq,hq1,hq2,by rw [hn,Int.mul_comm]⟩
theorem nh {a g q n:Int} (hg:M.gcd a 4096=g) (h1:1<=g) (hq:4096=g*q) (hn:a=n*g):EF a 4096=if eO n q then some (n,q) else none:=by
 have e1:b9 a 4096=n:=by rw [dP (by omega),hg,hn,Int.mul_tdiv_cancel _ (by omega)]
 have e2:bK a 4096=q:=by rw [dO (by omega),hg,hq,Int.mul_tdiv_cancel_left _ (by omega)]
 unfold EF Hc;rw [e1,e2]
theorem rI {a:Int} (h:(EF a 4096).isSome=true):eO (pn a) (pd a)=true/\1<=pd a/\pd a<=4096/\(4096:Int) % pd a=0/\pn a*(4096 / pd a)=a/\1<=4096 / pd a/\4096 / pd a<=4096/\-1000000000<=pn a/\pn a<=1000000000:=by
 obtain ⟨g,q,n,hg,h1,h2,hq,h3,h4,hn⟩:=sj a;have hf:=nh hg h1 hq hn;unfold pn pd;rw [hf] at h ⊢
 split at h
 ·rename_i hok
  have hb:=nk hok;rw [if_pos hok]
  show eO n q=true/\_
  have hdiv:(4096:Int) / q=g:=by rw [hq];exact Int.mul_ediv_cancel _ (by omega)
  refine ⟨hok,h3,h4,?_,?_,?_,?_,hb.1,hb.2.1⟩
  ·show (4096:Int) % q=0
   rw [hq];exact Int.mul_emod_left _ _
  ·show n*(4096 / q)=a
   rw [hdiv,hn]
  ·show 1<=(4096:Int) / q
   omega
  show (4096:Int) / q<=4096
  omega
 cases h
theorem bC {a:Int} (h1:-409600000<=a) (h2:a<=409600000):(EF a 4096).isSome=true:=by
 obtain ⟨g,q,n,hg,hg1,hg2,hq,h3,h4,hn⟩:=sj a;rw [nh hg hg1 hq hn]
 have hnb:-1000000000<=n/\n<=1000000000:=by
  constructor
  ·rcases Int.lt_or_le n (-1000000000) with h | h
   ·have:n*g<=n*1:=Int.mul_le_mul_of_nonpos_left (by omega) hg1
    omega
   exact h
  rcases Int.lt_or_le 1000000000 n with h | h
  ·have:n*1<=n*g:=Int.mul_le_mul_of_nonneg_left hg1 (by omega)
   omega
  exact h
 have Pw:M.gcd n q=1:=by
  have e1:M.gcd (n*g) (q*g)=M.gcd n q*g:=by
   unfold M.gcd;rw [Int.gcd_mul_right]
   have:(g.natAbs:Int)=g:=by omega
   rw [Int.natCast_mul,this]
  rw [←hn,Int.mul_comm q g,←hq,hg] at e1;have:=Int.eq_of_mul_eq_mul_right (a:=g) (b:=1) (c:=M.gcd n q) (by omega) (by omega);exact this.symm
 have hok:eO n q=true:=by
  unfold eO M.ins;rw [Pw];simp only [Bool.and_eq_true,decide_eq_true_eq];exact ⟨⟨by omega,hnb⟩,rfl⟩
 rw [if_pos hok];rfl
theorem BK {a:Int} (h:(EF a 4096).isSome=true):-4096000000000<=a/\a<=4096000000000:=by
 obtain ⟨-,-,-,-,h5,h6,h7,h8,h9⟩:=rI h;generalize 4096 / pd a=g at *;have:=aH (x:=pn a) (y:=g) (m:=1000000000) (n:=4096) (by omega) (by omega) (by omega) (by omega);omega
theorem sf {a b:Int} (hb:0<b) (h:a.tmod b<0):a.tdiv b - 1=a / b:=by
 have h1:=Int.mul_tdiv_add_tmod a b;have h2:=Int.lt_tmod_of_pos a hb;exact ((Int.ediv_emod_unique (r:=a.tmod b+b) hb).2 ⟨by rw [Int.mul_sub];omega,by omega,by omega⟩ |>.1).symm
theorem se {a b:Int} (hb:0<b) (h:¬ a.tmod b<0):a.tdiv b=a / b:=by
 have h1:=Int.mul_tdiv_add_tmod a b;have h2:=Int.tmod_lt_of_pos a hb;exact ((Int.ediv_emod_unique hb).2 ⟨by omega,by omega,h2⟩ |>.1).symm
end M
theorem fZ (a b:Int) (w:World) (h1:-4000000000000000000<=a) (h2:a<=4000000000000000000) (hb:0<b) (hb2:b<=4000000000000000000) :
  Calls Tryz.prog 130 #[a,b] w fun e w'=>e=.returned (.int .i64 (a / b))/\w=w':=by
 have t1:=fQ (a:=a) (d:=b) h1 h2 (by omega);have m1:=Int.tmod_lt_of_pos a hb;have m2:=Int.lt_tmod_of_pos a hb;have hf:=M.se (a:=a) hb;have ht:=M.sf (a:=a) hb
 have hb0:¬ b=0:=by omega
 by_cases h:a.tmod b<0
 ·have ht2:=DB (ht h)
  clear hf ht;go_enter Tryz.func130,Tryz.ntmps130
  go_wp2;go_ret;exact ⟨by first | rfl | (rw [←ht2.out];rfl),rfl⟩
 have hf2:=DB (hf h);clear ht hf;go_enter Tryz.func130,Tryz.ntmps130
 go_wp2;go_ret;exact ⟨by first | rfl | (rw [←hf2.out];rfl),rfl⟩
theorem lF (a b:Int) (w:World) (h1:-4000000000000000000<=a) (h2:a<=4000000000000000000) (hb:0<b) (hb2:b<=4000000000000000000) :
  Calls Tryz.prog 143 #[a,b] w fun e w'=>e=.returned (.int .i64 (a / b))/\w=w':=by
 have t1:=fQ (a:=a) (d:=b) h1 h2 (by omega);have m1:=Int.tmod_lt_of_pos a hb;have m2:=Int.lt_tmod_of_pos a hb;have hf:=M.se (a:=a) hb;have ht:=M.sf (a:=a) hb
 have hb0:¬ b=0:=by omega
 have hb1:(b == 0)=false:=by rw [beq_eq_false_iff_ne];exact hb0
 by_cases h:a.tmod b<0
 ·have ht2:=DB (ht h)
  clear hf ht;go_enter Tryz.func143,Tryz.ntmps143
  go_wp2;go_ret;exact ⟨by first | rfl | (rw [←ht2.out];rfl),rfl⟩
 have hf2:=DB (hf h);clear ht hf;go_enter Tryz.func143,Tryz.ntmps143
 go_wp2;go_ret;exact ⟨by first | rfl | (rw [←hf2.out];rfl),rfl⟩
theorem dX {a b k:Int} (h1:-k<=a) (h2:a<=k) (hb:0<b) (hk:0<=k):-k<=a / b/\a / b<=k:=by
 have e1:=Int.mul_ediv_add_emod a b;have e2:=Int.emod_nonneg a (by omega:b≠0);have e3:=Int.emod_lt_of_pos a hb
 constructor
 ·rcases Int.lt_or_le (a / b) (-k) with h | h
  ·have:b*(a / b)<=b*(-k - 1):=Int.mul_le_mul_of_nonneg_left (by omega) (by omega)
   have h4:b*(-k - 1)<=1*(-k - 1):=Int.mul_le_mul_of_nonpos_right (by omega) (by omega)
   have h5:b*(-k - 1)=b*(-k) - b:=by rw [Int.mul_sub,Int.mul_one]
   have h6:b*(-k)<=1*(-k):=Int.mul_le_mul_of_nonpos_right (by omega) (by omega);omega
  exact h
 rcases Int.lt_or_le k (a / b) with h | h
 ·have h4:b*(k+1)<=b*(a / b):=Int.mul_le_mul_of_nonneg_left (by omega) (by omega)
  have h5:1*(k+1)<=b*(k+1):=Int.mul_le_mul_of_nonneg_right (by omega) (by omega);omega
 exact h
theorem wu (a b:Int) (w:World) (h1:-4000000000000000000<=a) (h2:a<=4000000000000000000) (hb:0<b) (hb2:b<=4000000000000000000) :
  Calls Tryz.prog 144 #[a,b] w fun e w'=>e=.returned (.int .i64 (-(-a / b)))/\w=w':=by
 have P:=fun W=>lF (-a) b W (by omega) (by omega) hb hb2
 have hq:=dX (a:=-a) (b:=b) (k:=4000000000000000000) (by omega) (by omega) hb (by omega);obtain ⟨q1,q2⟩:=hq;generalize -a / b=q at *;replace P:=DB P;go_enter Tryz.func144,Tryz.ntmps144
 go_wp2_with (go_at_call 143;(with_reducible refine (P.out _).mono ?_);rintro e w4 ⟨rfl,rfl⟩)
 go_ret;exact ⟨rfl,rfl⟩
theorem pK (lo hi:Int) (w:World) :
  Calls Tryz.prog 149 #[.agg #[lo,hi]] w fun e w'=>e=.returned (.bool (M.aJ lo hi))/\Below w.heap.size w w':=by
 unfold M.aJ
 by_cases h1:lo<=hi
 ·by_cases h2:-409600000<=lo
  ·by_cases h3:hi<=409600000
   all_goals
    go_enter Tryz.func149,Tryz.ntmps149
    go_wp2;go_ret;exact ⟨d8 (by simp [h1,h2,h3]),(by repeat (first | exact DE _ _ | refine aQ ?_ _ | refine aR ?_ (by assumption) | refine Below.drew ?_ | refine DD ?_ (by first | exact DF _ | exact Nat.le_add_right _ _ | (simp <;> omega)) _ | refine aN ?_ _))⟩
  go_enter Tryz.func149,Tryz.ntmps149
  go_wp2;go_ret;exact ⟨d8 (by simp [h1,h2] <;> omega),(by repeat (first | exact DE _ _ | refine aQ ?_ _ | refine aR ?_ (by assumption) | refine Below.drew ?_ | refine DD ?_ (by first | exact DF _ | exact Nat.le_add_right _ _ | (simp <;> omega)) _ | refine aN ?_ _))⟩
 go_enter Tryz.func149,Tryz.ntmps149
 go_wp2;go_ret;exact ⟨d8 (by simp [h1] <;> omega),(by repeat (first | exact DE _ _ | refine aQ ?_ _ | refine aR ?_ (by assumption) | refine Below.drew ?_ | refine DD ?_ (by first | exact DF _ | exact Nat.le_add_right _ _ | (simp <;> omega)) _ | refine aN ?_ _))⟩
theorem Bf (a b c d:Int) (w:World) (h1:-4000000000000000000<=a) (h2:a<=4000000000000000000) (h3:-4000000000000000000<=b) (h4:b<=4000000000000000000) (h5:-4000000000000000000<=c) (h6:c<=4000000000000000000) (h7:-4000000000000000000<=d) (h8:d<=4000000000000000000) :
  Calls Tryz.prog 136 #[.agg #[a,b],.agg #[c,d]] w fun e w'=>e=.returned (.agg #[(a+c:Int),(b+d:Int)])/\Below w.heap.size w w':=by
 go_enter Tryz.func136,Tryz.ntmps136
 go_wp2;exact bodyPost_ret (v:=.agg #[(a+c:Int),(b+d:Int)]) (by simp [results,Tryz.results136,go_sem, *]) rfl (⟨rfl,(by repeat (first | exact DE _ _ | refine aQ ?_ _ | refine aR ?_ (by assumption) | refine Below.drew ?_ | refine DD ?_ (by first | exact DF _ | exact Nat.le_add_right _ _ | (simp <;> omega)) _ | refine aN ?_ _))⟩)
theorem zI (a b c d:Int) (w:World) (h1:-4000000000000000000<=a) (h2:a<=4000000000000000000) (h3:-4000000000000000000<=b) (h4:b<=4000000000000000000) (h5:-4000000000000000000<=c) (h6:c<=4000000000000000000) (h7:-4000000000000000000<=d) (h8:d<=4000000000000000000) :
  Calls Tryz.prog 137 #[.agg #[a,b],.agg #[c,d]] w fun e w'=>e=.returned (.agg #[(a - d:Int),(b - c:Int)])/\Below w.heap.size w w':=by
 go_enter Tryz.func137,Tryz.ntmps137
 go_wp2;exact bodyPost_ret (v:=.agg #[(a - d:Int),(b - c:Int)]) (by simp [results,Tryz.results137,go_sem, *]) rfl (⟨rfl,(by repeat (first | exact DE _ _ | refine aQ ?_ _ | refine aR ?_ (by assumption) | refine Below.drew ?_ | refine DD ?_ (by first | exact DF _ | exact Nat.le_add_right _ _ | (simp <;> omega)) _ | refine aN ?_ _))⟩)
theorem vX (a b c d:Int) (w:World) :
  Calls Tryz.prog 156 #[.agg #[a,b],.agg #[c,d]] w fun e w'=>e=.returned (.agg #[(max a c:Int),(min b d:Int)])/\Below w.heap.size w w':=by
 go_enter Tryz.func156,Tryz.ntmps156
 go_wp2;exact bodyPost_ret (v:=.agg #[(max a c:Int),(min b d:Int)]) (by simp [results,Tryz.results156,go_sem, *]) rfl (⟨rfl,(by repeat (first | exact DE _ _ | refine aQ ?_ _ | refine aR ?_ (by assumption) | refine Below.drew ?_ | refine DD ?_ (by first | exact DF _ | exact Nat.le_add_right _ _ | (simp <;> omega)) _ | refine aN ?_ _))⟩)
namespace M
def cI (a b c d:Int):Int:=min (a*c) (min (a*d) (min (b*c) (b*d)))
def cG (a b c d:Int):Int:=max (a*c) (max (a*d) (max (b*c) (b*d)))
theorem Ag {a b c d:Int} (h1:-1000000000<=a) (h2:a<=1000000000) (h3:-1000000000<=b) (h4:b<=1000000000) (h5:-1000000000<=c) (h6:c<=1000000000) (h7:-1000000000<=d) (h8:d<=1000000000) :
  -1000000000000000000<=cI a b c d/\cI a b c d<=1000000000000000000/\-1000000000000000000<=cG a b c d/\cG a b c d<=1000000000000000000:=by
 have q1:=aH (x:=a) (y:=c) (m:=1000000000) (n:=1000000000) h1 h2 h5 h6;have q2:=aH (x:=a) (y:=d) (m:=1000000000) (n:=1000000000) h1 h2 h7 h8;have q3:=aH (x:=b) (y:=c) (m:=1000000000) (n:=1000000000) h3 h4 h5 h6;have q4:=aH (x:=b) (y:=d) (m:=1000000000) (n:=1000000000) h3 h4 h7 h8;unfold cI cG;omega
end M
theorem xo {P:Program} (ts:Array TypeId) (t:TypeId) (p q r s:Int) (W:World):Sem.run P (Builtin.min_ ts t #[p,q,r,s]) W=.ok (.int .i64 (min p (min q (min r s)))) W:=by
 simp [Builtin.min_,Builtin.min2]
 repeat' split
 all_goals omega
theorem xn {P:Program} (ts:Array TypeId) (t:TypeId) (p q r s:Int) (W:World):Sem.run P (Builtin.max_ ts t #[p,q,r,s]) W=.ok (.int .i64 (max p (max q (max r s)))) W:=by
 simp [Builtin.max_,Builtin.max2]
 repeat' split
 all_goals omega
theorem AF (a b c d:Int) (w:World) (h1:-1000000000<=a) (h2:a<=1000000000) (h3:-1000000000<=b) (h4:b<=1000000000) (h5:-1000000000<=c) (h6:c<=1000000000) (h7:-1000000000<=d) (h8:d<=1000000000) :
  Calls Tryz.prog 135 #[.agg #[a,b],.agg #[c,d]] w fun e w'=>e=.returned (.agg #[(M.cI a b c d / 4096:Int),(-(-M.cG a b c d / 4096):Int)])/\Below w.heap.size w w':=by
 have q1:=M.aH (x:=a) (y:=c) (m:=1000000000) (n:=1000000000) h1 h2 h5 h6;have q2:=M.aH (x:=a) (y:=d) (m:=1000000000) (n:=1000000000) h1 h2 h7 h8;have q3:=M.aH (x:=b) (y:=c) (m:=1000000000) (n:=1000000000) h3 h4 h5 h6;have q4:=M.aH (x:=b) (y:=d) (m:=1000000000) (n:=1000000000) h3 h4 h7 h8;obtain ⟨t1,t2,t3,t4⟩:=M.Ag h1 h2 h3 h4 h5 h6 h7 h8;have EL:M.cI a b c d=min (a*c) (min (a*d) (min (b*c) (b*d))):=rfl;have hma:M.cG a b c d=max (a*c) (max (a*d) (max (b*c) (b*d))):=rfl
 have P1:=fun W=>fZ (M.cI a b c d) 4096 W (by omega) (by omega) (by omega) (by omega)
 have P2:=fun W=>fZ (-M.cG a b c d) 4096 W (by omega) (by omega) (by omega) (by omega)
 have f2:=dX (a:=-M.cG a b c d) (b:=4096) (k:=1000000000000000000) (by omega) (by omega) (by omega) (by omega);obtain ⟨f3,f4⟩:=f2;replace P1:=DB P1;replace P2:=DB P2;generalize M.cG a b c d=ma,M.cI a b c d=mi at *;obtain ⟨wc,hw3,S,T,R,B⟩:=cZ w #[a,b] 74 #[c,d] 74 #[(0:Int),(0:Int)] 74;replace EL:=DB EL;replace hma:=DB hma;go_enter Tryz.func135,Tryz.ntmps135
 go_wp2
 go_upto_region 1 with fail
 refine Rg.bg 24 [.is (.pointer (some ⟨w.heap.size,0,none⟩)),.is a,.is (.pointer (some ⟨w.heap.size+1,0,none⟩)),.is c,.is (a*c:Int),.is (.pointer (some ⟨w.heap.size,0,none⟩)),.is a,.is (.pointer (some ⟨w.heap.size+1,1,none⟩)),.is d,.is (a*d:Int),.is (.pointer (some ⟨w.heap.size,1,none⟩)),.is b,.is (.pointer (some ⟨w.heap.size+1,0,none⟩)),.is c,.is (b*c:Int),.is (.pointer (some ⟨w.heap.size,1,none⟩)),.is b,.is (.pointer (some ⟨w.heap.size+1,1,none⟩)),.is d,.is (b*d:Int),.is (a*c:Int),.is (a*d:Int),.is (b*c:Int),.is (b*d:Int)] (by kernel_rfl) (by kernel_rfl) (by kernel_rfl) ⟨?_,?_,?_,?_,?_,?_,?_,?_,?_,?_,?_,?_,?_,?_,?_,?_,?_,?_,?_,?_,?_,?_,?_,?_,trivial⟩ ?_
 all_goals try ((first | (refine Rg.b1 ?_;intro zZ w_ hB e) | (refine Rg.b2 ?_;intro zZ w_ hB e f));have kz:=aE hB S.box.c0;have kz:=aE hB T.box.c0;have kz:=aE hB T.box.c1;have kz:=aE hB S.box.c1;(first | (go_simp;done) | (go_simp;exact Rg.wo (by omega))))
 intro vals wz hB hv hne;have HV:vals 20=.int .i64 (a*c):=hv 20 (by decide);have Lv:vals 21=.int .i64 (a*d):=hv 21 (by decide);have Fg:vals 22=.int .i64 (b*c):=hv 22 (by decide);have HW:vals 23=.int .i64 (b*d):=hv 23 (by decide);simp only [Rg.bF,Rg.fill,Act.put,Nat.reduceAdd];clear hv;simp only [HV,Lv,Fg,HW];clear HV Lv Fg HW;replace R:=R.keep hB;have ⟨c0,c1,f0,f1,_⟩:=R.box;have hw4:=d_ B hB;clear S T hw3 hB B;generalize b*d=s,b*c=r,a*d=q,a*c=p at *;unfold Rg.aX;have P3:=P1.out;have P4:=P2.out;rw [EL.out] at P3;rw [hma.out] at P4;replace P3:=DB P3;replace P4:=DB P4;rw [EL.out] at t1 t2;rw [hma.out] at t3 t4 f3 f4;clear P1 P2
 have m4:=fun (W:World) ts t=>xo (P:=Tryz.prog) ts t p q r s W
 have x4:=fun (W:World) ts t=>xn (P:=Tryz.prog) ts t p q r s W
 rw [show w.heap.size+2=w.heap.size+1+1 by omega] at c0 c1 f0 f1
 go_wp2_with (go_at_call 130;first | ((with_reducible refine (P3.out _).mono ?_);rintro e w4 ⟨rfl,rfl⟩) | ((with_reducible refine (P4.out _).mono ?_);rintro e w4 ⟨rfl,rfl⟩))
 exact bodyPost_ret (v:=.agg #[(min p (min q (min r s)) / 4096:Int),(-(-max p (max q (max r s)) / 4096):Int)]) (by simp [results,Tryz.results135,go_sem, *]) rfl (⟨by rw [EL.out,hma.out],(by repeat (first | exact DE _ _ | refine aQ ?_ _ | refine aR ?_ (by assumption) | refine Below.drew ?_ | refine DD ?_ (by first | exact DF _ | exact Nat.le_add_right _ _ | (simp <;> omega)) _ | refine aN ?_ _))⟩)
theorem iA (a:Int) (w:World) (h:(M.EF a 4096).isSome=true) :
  Calls Tryz.prog 151 #[.agg #[M.pn a,M.pd a]] w fun e w'=>e=.returned (.tuple #[a,M.ins a (-409600000) 409600000])/\Below w.heap.size w w':=by
 obtain ⟨hok,d1,d2,hm,hp,g1,g2,n1,n2⟩:=M.rI h;have H4:=M.BK h;obtain ⟨r1,r2⟩:=H4
 have PF:=fun W=>lG (M.pn a) (M.pd a) W
 rw [hok] at PF;generalize M.pd a=d,M.pn a=n at *
 have hd0:¬ d=0:=by omega
 have ht:(4096:Int).tmod d=0:=by rw [Int.tmod_eq_emod_of_nonneg (by omega)];exact hm
 have hq:(4096:Int).tdiv d=4096 / d:=Int.tdiv_eq_ediv_of_nonneg (by omega)
 have PI:=fun W=>dl a (-409600000) 409600000 W
 replace PF:=DB PF;replace PI:=DB PI;clear h hok;generalize 4096 / d=g at *;have hq2:=DB hq;have hp2:=DB hp;have hw1:=DB (show IntKind.i64.wrap g=g from IntWalk.i64_in _ (by omega));have hw2:=DB (show IntKind.i64.wrap (n*g)=a by rw [hp];exact IntWalk.i64_in _ (by omega));clear hq hp;have hm2:=DB hm;obtain ⟨wc,hw3,V,B⟩:=dD w #[n,d] 49;have DU:=V.box.c0;have DV:=V.box.c1;go_enter Tryz.func151,Tryz.ntmps151
 go_upto_region 3 with (go_at_call 101;(with_reducible refine (PF.out _).mono ?_);rintro e w4 ⟨rfl,hb4⟩;replace V:=V.keep hb4;replace B:=d_ B hb4;(replace ⟨DU,DV⟩:=V.b2))
 refine Rg.bg 7 [.is (.pointer (some ⟨w.heap.size,0,none⟩)),.is n,.is (.pointer (some ⟨w.heap.size,1,none⟩)),.is d,.is g,.is a,.is a] (by kernel_rfl) (by kernel_rfl) (by kernel_rfl) ⟨?_,?_,?_,?_,?_,?_,?_,trivial⟩ ?_
 all_goals try ((first | (refine Rg.b1 ?_;intro zZ w_ hB e) | (refine Rg.b2 ?_;intro zZ w_ hB e f));have kz:=aE hB V.box.c0;have kz:=aE hB V.box.c1;have ec:=Rg.ec zZ;(first | (go_simp;done) | (go_simp;first | done | (rw [hq2.out];first | done | rw [hw1.out] | (exact ⟨hd0,by rw [hw1.out]⟩)) | (simp only [hq2.out,hw1.out];done) | (simp [hq2.out,hw1.out,hd0];done);done) | (go_simp;first | done | (rw [hw2.out];done) | exact hw2.out;done)))
 intro vals wz hB hv hne;have Gq:vals 6=.int .i64 a:=hv 6 (by decide);simp only [Rg.bF,Rg.fill,Act.put,Nat.reduceAdd];clear hv;simp only [Gq];clear Gq;unfold Rg.aX
 go_wp2_with (go_at_call 35;(with_reducible refine (PI.out _).mono ?_);rintro e w6 ⟨rfl,rfl⟩)
 go_ret2;exact ⟨rfl,d_ B hB⟩
theorem lM (a b:Int) (w:World) (h1:(M.EF a 4096).isSome=true) (h2:(M.EF b 4096).isSome=true) :
  Calls Tryz.prog 153 #[.agg #[M.pn a,M.pd a,M.pn b,M.pd b]] w fun e w'=>e=.returned (.bool (M.aJ a b))/\Below w.heap.size w w':=by
 have P1:=DB fun W=>iA a W h1
 have P2:=DB fun W=>iA b W h2
 have hs:M.aJ a b=(M.ins a (-409600000) 409600000 && M.ins b (-409600000) 409600000 && decide (a<=b)):=by
  rw [Bool.eq_iff_iff];unfold M.aJ M.ins;simp only [Bool.and_eq_true,decide_eq_true_eq];omega
 rw [hs];clear hs;generalize M.pd b=d2,M.pn b=n2,M.pd a=d1,M.pn a=n1 at *;obtain ⟨wc,hw3,V,B⟩:=dD w #[n1,d1,n2,d2] 78;have DU:=V.aL.c0;have DV:=V.aL.c1;have D5:=V.aL.c2;have D6:=V.aL.c3;generalize M.ins b (-409600000) 409600000=i2,M.ins a (-409600000) 409600000=i1 at *
 by_cases hab:a<=b <;> cases i1 <;> cases i2
 all_goals
  go_enter Tryz.func153,Tryz.ntmps153
  go_wp2_with (go_at_call 151;first | ((with_reducible refine (P1.out _).mono ?_);rintro e w4 ⟨rfl,hb4⟩;have V4:=V.keep hb4;have B4:=d_ B hb4;have y0:=V4.aL.c0;have y1:=V4.aL.c1;have y2:=V4.aL.c2;have y3:=V4.aL.c3) | ((with_reducible refine (P2.out _).mono ?_);rintro e w5 ⟨rfl,hb5⟩;have B5:=d_ B4 hb5))
  all_goals
   go_ret;exact ⟨by first | rfl | (simp [hab];done) | (exact d8 (by simp [hab];done)) | (exact d8 (by simp <;> omega)),B5⟩
theorem dz (a b:Int) (w:World) (h1:(M.EF a 4096).isSome=true) (h2:(M.EF b 4096).isSome=true) :
  Calls Tryz.prog 140 #[.agg #[M.pn a,M.pd a,M.pn b,M.pd b]] w fun e w'=>e=.returned (.tuple #[a,b])/\Below w.heap.size w w':=by
 have P1:=DB fun W=>iA a W h1
 have P2:=DB fun W=>iA b W h2
 generalize M.ins b (-409600000) 409600000=i2,M.ins a (-409600000) 409600000=i1,M.pd b=d2,M.pn b=n2,M.pd a=d1,M.pn a=n1 at *;obtain ⟨wc,hw3,V,B⟩:=dD w #[n1,d1,n2,d2] 78;have DU:=V.aL.c0;have DV:=V.aL.c1;have D5:=V.aL.c2;have D6:=V.aL.c3;go_enter Tryz.func140,Tryz.ntmps140
 go_wp2_with (go_at_call 151;first | ((with_reducible refine (P1.out _).mono ?_);rintro e w4 ⟨rfl,hb4⟩;have V4:=V.keep hb4;have B4:=d_ B hb4;have y0:=V4.aL.c0;have y1:=V4.aL.c1;have y2:=V4.aL.c2;have y3:=V4.aL.c3) | ((with_reducible refine (P2.out _).mono ?_);rintro e w5 ⟨rfl,hb5⟩;have B5:=d_ B4 hb5))
 go_ret2;exact ⟨rfl,B5⟩
end
section
namespace M
theorem lK {p:Int} (h:1<=p):∀ k:Nat,1<=fb p k
 | 0=>by simp [fb]
 | k+1=>by
  have h1:=lK h k;have:=Int.mul_le_mul h1 h (by omega) (by omega)
  simpa [fb] using this
theorem uG {p:Int} (h:1<=p) (k:Nat):fb p k<=fb p (k+1):=by
 have h1:=lK h k;have:=Int.mul_le_mul_of_nonneg_left h (show 0<=fb p k by omega);simp only [fb];omega
theorem mS {p:Int} (h:1<=p) {i j:Nat} (hij:i<=j):fb p i<=fb p j:=by
 induction j with
 | zero=>
      obtain rfl:i=0:=by omega
      exact Int.le_refl _
 | succ j ih=>
 rcases Nat.lt_or_ge i (j+1) with q | q
 ·exact Int.le_trans (ih (by omega)) (uG h j)
 obtain rfl:i=j+1:=by omega
 exact Int.le_refl _
def AO (p:Int) (d:Nat):Prop:=fb p d<=1000000000/\1000000000<fb p (d+1)
theorem AO.le {p:Int} {d j:Nat} (hp:1<=p) (h:AO p d) (hj:j<=d):fb p j<=1000000000:=Int.le_trans (mS hp hj) h.1
end M
end
section
open Go.RowKit
theorem qH (p:Int) (k:Nat) (w:World) (p1:1<=p) (hb:M.fb p k<=4000000000000000000) (hk:k<=1000) :
  Calls Tryz.prog 30 #[p,k] w fun e w'=>e=.returned (.int .i64 (M.fb p k))/\w=w':=by
 go_enter Tryz.func30,Tryz.ntmps30
 go_wp2
 go_loop [5,7] (fun vo vi=>∃ j:Nat,j<=k/\vi=.int .i64 j/\vo=.int .i64 (M.fb p j)) (fun _ vi=>(k - (intOf vi).toNat))
 case atStart=>exact ⟨0,by omega,rfl,rfl⟩
 case round=>
 obtain ⟨j,hj,rfl,rfl⟩:=hrel
 by_cases hlt:j<k
 ·have h1:=M.lK p1 j
  have h2:=M.mS p1 (show j+1<=k from hlt);have h3:M.fb p j*p<=4000000000000000000:=Int.le_trans h2 hb;have h4:0<=M.fb p j*p:=Int.mul_nonneg (by omega) (by omega);go_wp2
  go_round
  case rel=>exact ⟨j+1,by omega,by go_num,rfl⟩
  case measure=>simp [intOf];omega
 obtain rfl:j=k:=by omega
 go_wp2;go_ret;exact ⟨rfl,rfl⟩
theorem mY (a b:Int) (w:World) :
  Calls Tryz.prog 141 #[a,b] w fun e w'=>e=.returned (.int .i64 (min a b))/\w=w':=by
 by_cases h:a<b
 ·have h2:min a b=a:=by omega
  rw [h2];go_enter Tryz.func141,Tryz.ntmps141
  go_wp2;go_ret;exact ⟨rfl,rfl⟩
 have h2:min a b=b:=by omega
 rw [h2];go_enter Tryz.func141,Tryz.ntmps141
 go_wp2;go_ret;exact ⟨rfl,rfl⟩
theorem M.CA {a b:Int} (h:(M.EF a 4096).isSome=false∨(M.EF b 4096).isSome=false):M.aJ a b=false:=by
 cases hs:M.aJ a b with
 | false=>rfl
 | true=>
 obtain ⟨h1,h2,h3⟩:=M.bj hs;rw [M.bC (by omega) (by omega),M.bC (by omega) (by omega)] at h;simp at h
theorem gW (a b:Int) (w:World) (h1:-4000000000000000000<=a) (h2:a<=4000000000000000000) (h3:-4000000000000000000<=b) (h4:b<=4000000000000000000) :
  Calls Tryz.prog 142 #[a,b] w fun e w'=>e=.returned (.tuple #[.agg #[M.pick (M.aJ (a) (b)) (M.pn (a)),M.pick (M.aJ (a) (b)) (M.pd (a)),M.pick (M.aJ (a) (b)) (M.pn (b)),M.pick (M.aJ (a) (b)) (M.pd (b))],M.aJ (a) (b)])/\Below w.heap.size w w':=by
 have P1:=fun W=>pw a 4096 W h1 h2 (by omega) (by omega) (by omega)
 have P2:=fun W=>pw b 4096 W h3 h4 (by omega) (by omega) (by omega)
 have PG:=fun W (q1:(M.EF a 4096).isSome=true) (q2:(M.EF b 4096).isSome=true)=>lM a b W q1 q2
 have hno:=@M.CA a b;have e1:=DB (show M.pn a=M.fN (M.EF a 4096) from rfl);have e2:=DB (show M.pd a=M.fD (M.EF a 4096) from rfl);have e3:=DB (show M.pn b=M.fN (M.EF b 4096) from rfl);have e4:=DB (show M.pd b=M.fD (M.EF b 4096) from rfl);rw [e1.out,e2.out,e3.out,e4.out] at PG ⊢;clear e1 e2 e3 e4;generalize M.fD (M.EF b 4096)=p4,M.fN (M.EF b 4096)=p3,M.fD (M.EF a 4096)=p2,M.fN (M.EF a 4096)=p1,(M.EF b 4096).isSome=o2,(M.EF a 4096).isSome=o1 at *;replace P1:=DB P1;replace P2:=DB P2;obtain ⟨wc,hw3,R,B⟩:=dD w #[(0:Int),(0:Int),(0:Int),(0:Int)] 78
 cases o1 with
 | false=>
  rw [hno (Or.inl rfl)];clear hno PG;go_enter Tryz.func142,Tryz.ntmps142
  go_wp2_with (first
   | (go_at_call 152;(with_reducible refine (P1.out _).mono ?_);rintro e w4 ⟨rfl,hb4⟩;replace R:=R.keep hb4;replace B:=d_ B hb4;have F:=aG.new w4 #[p1,p2] 49;have b_:=bA w4 (.cells #[p1,p2] 49);replace R:=R.keep b_;replace B:=d_ B b_;clear b_;(replace ⟨p_,r_,y_,A_,s_,t_,C_,DG⟩:=R.Da);(replace ⟨E7,E8⟩:=F.b2))
   | (go_at_call 152;(with_reducible refine (P2.out _).mono ?_);rintro e w5 ⟨rfl,hb5⟩;replace R:=R.keep hb5;replace F:=F.keep hb5;replace B:=d_ B hb5;have G:=aG.new w5 #[p3,p4] 49;have b_:=bA w5 (.cells #[p3,p4] 49);replace R:=R.keep b_;replace F:=F.keep b_;replace B:=d_ B b_;clear b_;(replace ⟨p_,r_,y_,A_,s_,t_,C_,DG⟩:=R.Da);(replace ⟨E7,E8⟩:=F.b2);(replace ⟨Gv,Gw⟩:=G.b2);have O:=aG.new (w5.alloc (.cells #[p3,p4] 49)) #[p1,p2,p3,p4] 78;have b_:=bA (w5.alloc (.cells #[p3,p4] 49)) (.cells #[p1,p2,p3,p4] 78);replace R:=R.keep b_;replace F:=F.keep b_;replace G:=G.keep b_;replace B:=d_ B b_;clear b_;(rw [DC] at O);have Ed:=O.aL.c0;have Ee:=O.aL.c1;have Ef:=O.aL.c2;have Eg:=O.aL.c3;have p_:=R.aL.c0;have r_:=R.aL.c1;have y_:=R.aL.c2;have A_:=R.aL.c3;have s_:=R.aL.f0;have t_:=R.aL.f1;have C_:=R.aL.f2;have DG:=R.aL.f3))
  exact bodyPost_ret (v:=.tuple #[.agg #[(0:Int),(0:Int),(0:Int),(0:Int)],false]) (by simp [results,Tryz.results142,go_sem, *]) rfl (⟨rfl,D9 B⟩)
 | true=>
 cases o2 with
 | false=>
  rw [hno (Or.inr rfl)];clear hno PG;go_enter Tryz.func142,Tryz.ntmps142
  go_wp2_with (first
   | (go_at_call 152;(with_reducible refine (P1.out _).mono ?_);rintro e w4 ⟨rfl,hb4⟩;replace R:=R.keep hb4;replace B:=d_ B hb4;have F:=aG.new w4 #[p1,p2] 49;have b_:=bA w4 (.cells #[p1,p2] 49);replace R:=R.keep b_;replace B:=d_ B b_;clear b_;(replace ⟨p_,r_,y_,A_,s_,t_,C_,DG⟩:=R.Da);(replace ⟨E7,E8⟩:=F.b2))
   | (go_at_call 152;(with_reducible refine (P2.out _).mono ?_);rintro e w5 ⟨rfl,hb5⟩;replace R:=R.keep hb5;replace F:=F.keep hb5;replace B:=d_ B hb5;have G:=aG.new w5 #[p3,p4] 49;have b_:=bA w5 (.cells #[p3,p4] 49);replace R:=R.keep b_;replace F:=F.keep b_;replace B:=d_ B b_;clear b_;(replace ⟨p_,r_,y_,A_,s_,t_,C_,DG⟩:=R.Da);(replace ⟨E7,E8⟩:=F.b2);(replace ⟨Gv,Gw⟩:=G.b2);have O:=aG.new (w5.alloc (.cells #[p3,p4] 49)) #[p1,p2,p3,p4] 78;have b_:=bA (w5.alloc (.cells #[p3,p4] 49)) (.cells #[p1,p2,p3,p4] 78);replace R:=R.keep b_;replace F:=F.keep b_;replace G:=G.keep b_;replace B:=d_ B b_;clear b_;(rw [DC] at O);have Ed:=O.aL.c0;have Ee:=O.aL.c1;have Ef:=O.aL.c2;have Eg:=O.aL.c3;have p_:=R.aL.c0;have r_:=R.aL.c1;have y_:=R.aL.c2;have A_:=R.aL.c3;have s_:=R.aL.f0;have t_:=R.aL.f1;have C_:=R.aL.f2;have DG:=R.aL.f3))
  exact bodyPost_ret (v:=.tuple #[.agg #[(0:Int),(0:Int),(0:Int),(0:Int)],false]) (by simp [results,Tryz.results142,go_sem, *]) rfl (⟨rfl,D9 B⟩)
 | true=>
 have IP:=fun W=>PG W rfl rfl
 clear PG hno
 cases hs:M.aJ a b with
 | true=>
  rw [hs] at IP;replace IP:=DB IP;clear hs;go_enter Tryz.func142,Tryz.ntmps142
  go_wp2_with (first
   | (go_at_call 152;(with_reducible refine (P1.out _).mono ?_);rintro e w4 ⟨rfl,hb4⟩;replace R:=R.keep hb4;replace B:=d_ B hb4;have F:=aG.new w4 #[p1,p2] 49;have b_:=bA w4 (.cells #[p1,p2] 49);replace R:=R.keep b_;replace B:=d_ B b_;clear b_;(replace ⟨p_,r_,y_,A_,s_,t_,C_,DG⟩:=R.Da);(replace ⟨E7,E8⟩:=F.b2))
   | (go_at_call 152;(with_reducible refine (P2.out _).mono ?_);rintro e w5 ⟨rfl,hb5⟩;replace R:=R.keep hb5;replace F:=F.keep hb5;replace B:=d_ B hb5;have G:=aG.new w5 #[p3,p4] 49;have b_:=bA w5 (.cells #[p3,p4] 49);replace R:=R.keep b_;replace F:=F.keep b_;replace B:=d_ B b_;clear b_;(replace ⟨p_,r_,y_,A_,s_,t_,C_,DG⟩:=R.Da);(replace ⟨E7,E8⟩:=F.b2);(replace ⟨Gv,Gw⟩:=G.b2);have O:=aG.new (w5.alloc (.cells #[p3,p4] 49)) #[p1,p2,p3,p4] 78;have b_:=bA (w5.alloc (.cells #[p3,p4] 49)) (.cells #[p1,p2,p3,p4] 78);replace R:=R.keep b_;replace F:=F.keep b_;replace G:=G.keep b_;replace B:=d_ B b_;clear b_;(rw [DC] at O);have Ed:=O.aL.c0;have Ee:=O.aL.c1;have Ef:=O.aL.c2;have Eg:=O.aL.c3;have p_:=R.aL.c0;have r_:=R.aL.c1;have y_:=R.aL.c2;have A_:=R.aL.c3;have s_:=R.aL.f0;have t_:=R.aL.f1;have C_:=R.aL.f2;have DG:=R.aL.f3)
   | (go_at_call 153;(with_reducible refine (IP.out _).mono ?_);rintro e w6 ⟨rfl,hb6⟩;replace R:=R.keep hb6;replace F:=F.keep hb6;replace G:=G.keep hb6;replace O:=O.keep hb6;replace B:=d_ B hb6;(replace ⟨p_,r_,y_,A_,s_,t_,C_,DG⟩:=R.Da);(replace ⟨E7,E8⟩:=F.b2);(replace ⟨Gv,Gw⟩:=G.b2);(replace ⟨Ed,Ee,Ef,Eg⟩:=O.b4)))
  exact bodyPost_ret (v:=.tuple #[.agg #[p1,p2,p3,p4],true]) (by simp [results,Tryz.results142,go_sem, *]) rfl (⟨rfl,D9 B⟩)
 | false=>
 rw [hs] at IP;replace IP:=DB IP;clear hs;go_enter Tryz.func142,Tryz.ntmps142
 go_wp2_with (first
  | (go_at_call 152;(with_reducible refine (P1.out _).mono ?_);rintro e w4 ⟨rfl,hb4⟩;replace R:=R.keep hb4;replace B:=d_ B hb4;have F:=aG.new w4 #[p1,p2] 49;have b_:=bA w4 (.cells #[p1,p2] 49);replace R:=R.keep b_;replace B:=d_ B b_;clear b_;(replace ⟨p_,r_,y_,A_,s_,t_,C_,DG⟩:=R.Da);(replace ⟨E7,E8⟩:=F.b2))
  | (go_at_call 152;(with_reducible refine (P2.out _).mono ?_);rintro e w5 ⟨rfl,hb5⟩;replace R:=R.keep hb5;replace F:=F.keep hb5;replace B:=d_ B hb5;have G:=aG.new w5 #[p3,p4] 49;have b_:=bA w5 (.cells #[p3,p4] 49);replace R:=R.keep b_;replace F:=F.keep b_;replace B:=d_ B b_;clear b_;(replace ⟨p_,r_,y_,A_,s_,t_,C_,DG⟩:=R.Da);(replace ⟨E7,E8⟩:=F.b2);(replace ⟨Gv,Gw⟩:=G.b2);have O:=aG.new (w5.alloc (.cells #[p3,p4] 49)) #[p1,p2,p3,p4] 78;have b_:=bA (w5.alloc (.cells #[p3,p4] 49)) (.cells #[p1,p2,p3,p4] 78);replace R:=R.keep b_;replace F:=F.keep b_;replace G:=G.keep b_;replace B:=d_ B b_;clear b_;(rw [DC] at O);have Ed:=O.aL.c0;have Ee:=O.aL.c1;have Ef:=O.aL.c2;have Eg:=O.aL.c3;have p_:=R.aL.c0;have r_:=R.aL.c1;have y_:=R.aL.c2;have A_:=R.aL.c3;have s_:=R.aL.f0;have t_:=R.aL.f1;have C_:=R.aL.f2;have DG:=R.aL.f3)
  | (go_at_call 153;(with_reducible refine (IP.out _).mono ?_);rintro e w6 ⟨rfl,hb6⟩;replace R:=R.keep hb6;replace F:=F.keep hb6;replace G:=G.keep hb6;replace O:=O.keep hb6;replace B:=d_ B hb6;(replace ⟨p_,r_,y_,A_,s_,t_,C_,DG⟩:=R.Da);(replace ⟨E7,E8⟩:=F.b2);(replace ⟨Gv,Gw⟩:=G.b2);(replace ⟨Ed,Ee,Ef,Eg⟩:=O.b4)))
 exact bodyPost_ret (v:=.tuple #[.agg #[(0:Int),(0:Int),(0:Int),(0:Int)],false]) (by simp [results,Tryz.results142,go_sem, *]) rfl (⟨rfl,D9 B⟩)
theorem yv (a b c d:Int) (w:World) (hab:M.aJ a b=true) (hcd:M.aJ c d=true) :
  Calls Tryz.prog 122 #[.agg #[M.pn a,M.pd a,M.pn b,M.pd b],.agg #[M.pn c,M.pd c,M.pn d,M.pd d]] w fun e w'=>e=.returned (.tuple #[.agg #[M.pick (M.aJ (a+c) (b+d)) (M.pn (a+c)),M.pick (M.aJ (a+c) (b+d)) (M.pd (a+c)),M.pick (M.aJ (a+c) (b+d)) (M.pn (b+d)),M.pick (M.aJ (a+c) (b+d)) (M.pd (b+d))],M.aJ (a+c) (b+d)])/\Below w.heap.size w w':=by
 obtain ⟨ab,a1,b1⟩:=M.bj hab;obtain ⟨cd,c1,d1⟩:=M.bj hcd
 have E1:=fun W=>dz a b W (M.bC (by omega) (by omega)) (M.bC (by omega) (by omega))
 have E2:=fun W=>dz c d W (M.bC (by omega) (by omega)) (M.bC (by omega) (by omega))
 have PM:=fun W=>gW (a+c) (b+d) W (by omega) (by omega) (by omega) (by omega)
 generalize M.aJ (a+c) (b+d)=s,M.pick (M.aJ (a+c) (b+d)) (M.pd (b+d))=p4,M.pick (M.aJ (a+c) (b+d)) (M.pn (b+d))=p3,M.pick (M.aJ (a+c) (b+d)) (M.pd (a+c))=p2,M.pick (M.aJ (a+c) (b+d)) (M.pn (a+c))=p1 at *;replace PM:=DB PM;replace E1:=DB E1;replace E2:=DB E2;generalize hn1:M.pn a=n1 at *;generalize hd1:M.pd a=d1 at *;generalize hn2:M.pn b=n2 at *;generalize hd2:M.pd b=d2 at *;generalize HA:M.pn c=n3 at *;generalize hd3:M.pd c=d3 at *;generalize FB:M.pn d=n4 at *;generalize hd4:M.pd d=d4 at *;clear hn1 hn2 HA FB hd1 hd2 hd3 hd4;obtain ⟨wc,hw3,V,U,R,B⟩:=cZ w #[n1,d1,n2,d2] 78 #[n3,d3,n4,d4] 78 #[(0:Int),(0:Int),(0:Int),(0:Int)] 78;have DU:=V.aL.c0;have DV:=V.aL.c1;have D5:=V.aL.c2;have D6:=V.aL.c3;have DW:=U.aL.c0;have DX:=U.aL.c1;have ED:=U.aL.c2;have EE:=U.aL.c3;have p_:=R.aL.c0;have r_:=R.aL.c1;have y_:=R.aL.c2;have A_:=R.aL.c3;go_enter Tryz.func122,Tryz.ntmps122
 go_wp2_with (first
  | (go_at_call 140;(with_reducible refine (E1.out _).mono ?_);rintro e w4 ⟨rfl,hb4⟩;replace V:=V.keep hb4;replace U:=U.keep hb4;replace R:=R.keep hb4;replace B:=d_ B hb4;(replace ⟨DU,DV,D5,D6⟩:=V.b4);(replace ⟨DW,DX,ED,EE⟩:=U.b4);(replace ⟨p_,r_,y_,A_,s_,t_,C_,DG⟩:=R.Da))
  | (go_at_call 140;(with_reducible refine (E2.out _).mono ?_);rintro e w5 ⟨rfl,hb5⟩;replace V:=V.keep hb5;replace U:=U.keep hb5;replace R:=R.keep hb5;replace B:=d_ B hb5;(replace ⟨DU,DV,D5,D6⟩:=V.b4);(replace ⟨DW,DX,ED,EE⟩:=U.b4);(replace ⟨p_,r_,y_,A_,s_,t_,C_,DG⟩:=R.Da))
  | (go_at_call 142;(with_reducible refine (PM.out _).mono ?_);rintro e w6 ⟨rfl,hb6⟩;replace V:=V.keep hb6;replace U:=U.keep hb6;replace R:=R.keep hb6;replace B:=d_ B hb6;(replace ⟨DU,DV,D5,D6⟩:=V.b4);(replace ⟨DW,DX,ED,EE⟩:=U.b4);(replace ⟨p_,r_,y_,A_,s_,t_,C_,DG⟩:=R.Da)))
 exact bodyPost_ret (v:=.tuple #[.agg #[p1,p2,p3,p4],s]) (by simp [results,Tryz.results122,go_sem, *]) rfl (⟨rfl,D9 B⟩)
theorem y6 (a b c d:Int) (w:World) (hab:M.aJ a b=true) (hcd:M.aJ c d=true) :
  Calls Tryz.prog 123 #[.agg #[M.pn a,M.pd a,M.pn b,M.pd b],.agg #[M.pn c,M.pd c,M.pn d,M.pd d]] w fun e w'=>e=.returned (.tuple #[.agg #[M.pick (M.aJ (a - d) (b - c)) (M.pn (a - d)),M.pick (M.aJ (a - d) (b - c)) (M.pd (a - d)),M.pick (M.aJ (a - d) (b - c)) (M.pn (b - c)),M.pick (M.aJ (a - d) (b - c)) (M.pd (b - c))],M.aJ (a - d) (b - c)])/\Below w.heap.size w w':=by
 obtain ⟨ab,a1,b1⟩:=M.bj hab;obtain ⟨cd,c1,d1⟩:=M.bj hcd
 have E1:=fun W=>dz a b W (M.bC (by omega) (by omega)) (M.bC (by omega) (by omega))
 have E2:=fun W=>dz c d W (M.bC (by omega) (by omega)) (M.bC (by omega) (by omega))
 have PM:=fun W=>gW (a - d) (b - c) W (by omega) (by omega) (by omega) (by omega)
 generalize M.aJ (a - d) (b - c)=s,M.pick (M.aJ (a - d) (b - c)) (M.pd (b - c))=p4,M.pick (M.aJ (a - d) (b - c)) (M.pn (b - c))=p3,M.pick (M.aJ (a - d) (b - c)) (M.pd (a - d))=p2,M.pick (M.aJ (a - d) (b - c)) (M.pn (a - d))=p1 at *;replace PM:=DB PM;replace E1:=DB E1;replace E2:=DB E2;generalize hn1:M.pn a=n1 at *;generalize hd1:M.pd a=d1 at *;generalize hn2:M.pn b=n2 at *;generalize hd2:M.pd b=d2 at *;generalize HA:M.pn c=n3 at *;generalize hd3:M.pd c=d3 at *;generalize FB:M.pn d=n4 at *;generalize hd4:M.pd d=d4 at *;clear hn1 hn2 HA FB hd1 hd2 hd3 hd4;obtain ⟨wc,hw3,V,U,R,B⟩:=cZ w #[n1,d1,n2,d2] 78 #[n3,d3,n4,d4] 78 #[(0:Int),(0:Int),(0:Int),(0:Int)] 78;have DU:=V.aL.c0;have DV:=V.aL.c1;have D5:=V.aL.c2;have D6:=V.aL.c3;have DW:=U.aL.c0;have DX:=U.aL.c1;have ED:=U.aL.c2;have EE:=U.aL.c3;have p_:=R.aL.c0;have r_:=R.aL.c1;have y_:=R.aL.c2;have A_:=R.aL.c3;go_enter Tryz.func123,Tryz.ntmps123
 go_wp2_with (first
  | (go_at_call 140;(with_reducible refine (E1.out _).mono ?_);rintro e w4 ⟨rfl,hb4⟩;replace V:=V.keep hb4;replace U:=U.keep hb4;replace R:=R.keep hb4;replace B:=d_ B hb4;(replace ⟨DU,DV,D5,D6⟩:=V.b4);(replace ⟨DW,DX,ED,EE⟩:=U.b4);(replace ⟨p_,r_,y_,A_,s_,t_,C_,DG⟩:=R.Da))
  | (go_at_call 140;(with_reducible refine (E2.out _).mono ?_);rintro e w5 ⟨rfl,hb5⟩;replace V:=V.keep hb5;replace U:=U.keep hb5;replace R:=R.keep hb5;replace B:=d_ B hb5;(replace ⟨DU,DV,D5,D6⟩:=V.b4);(replace ⟨DW,DX,ED,EE⟩:=U.b4);(replace ⟨p_,r_,y_,A_,s_,t_,C_,DG⟩:=R.Da))
  | (go_at_call 142;(with_reducible refine (PM.out _).mono ?_);rintro e w6 ⟨rfl,hb6⟩;replace V:=V.keep hb6;replace U:=U.keep hb6;replace R:=R.keep hb6;replace B:=d_ B hb6;(replace ⟨DU,DV,D5,D6⟩:=V.b4);(replace ⟨DW,DX,ED,EE⟩:=U.b4);(replace ⟨p_,r_,y_,A_,s_,t_,C_,DG⟩:=R.Da)))
 exact bodyPost_ret (v:=.tuple #[.agg #[p1,p2,p3,p4],s]) (by simp [results,Tryz.results123,go_sem, *]) rfl (⟨rfl,D9 B⟩)
theorem y7 (a b c d:Int) (w:World) (hab:M.aJ a b=true) (hcd:M.aJ c d=true) :
  Calls Tryz.prog 166 #[.agg #[M.pn a,M.pd a,M.pn b,M.pd b],.agg #[M.pn c,M.pd c,M.pn d,M.pd d]] w fun e w'=>e=.returned (.bool true)/\Below w.heap.size w w':=by
 obtain ⟨ab,a1,b1⟩:=M.bj hab;obtain ⟨cd,c1,d1⟩:=M.bj hcd
 have E1:=fun W=>lM a b W (M.bC (by omega) (by omega)) (M.bC (by omega) (by omega))
 have E2:=fun W=>lM c d W (M.bC (by omega) (by omega)) (M.bC (by omega) (by omega))
 rw [hab] at E1;rw [hcd] at E2;generalize M.pd d=d4,M.pn d=n4,M.pd c=d3,M.pn c=n3,M.pd b=d2,M.pn b=n2,M.pd a=d1,M.pn a=n1 at *;replace E1:=DB E1;replace E2:=DB E2;clear hab hcd;have U:=aG.new (w.alloc (.cells #[n1,d1,n2,d2] 78)) #[n3,d3,n4,d4] 78;rw [DC] at U;have B:=((DE w.heap.size w).alloc (DF _) (.cells #[n1,d1,n2,d2] 78)).alloc (by rw [DC];omega) (.cells #[n3,d3,n4,d4] 78);go_enter Tryz.func166,Tryz.ntmps166
 go_wp2_with (go_at_call 153;first | ((with_reducible refine (E1.out _).mono ?_);rintro e w4 ⟨rfl,hb4⟩;have U4:=U.keep hb4;have B4:=d_ B hb4;have y0:=U4.aL.c0;have y1:=U4.aL.c1;have y2:=U4.aL.c2;have y3:=U4.aL.c3) | ((with_reducible refine (E2.out _).mono ?_);rintro e w5 ⟨rfl,hb5⟩;have B5:=d_ B4 hb5))
 go_ret;exact ⟨rfl,B5⟩
theorem nE (a b c d:Int) (w:World) (hab:M.aJ a b=true) (hcd:M.aJ c d=true) :
  Calls Tryz.prog 158 #[.agg #[M.pn a,M.pd a,M.pn b,M.pd b],.agg #[M.pn c,M.pd c,M.pn d,M.pd d]] w fun e w'=>e=.returned (.tuple #[.agg #[M.pick (M.aJ (max a c) (min b d)) (M.pn (max a c)),M.pick (M.aJ (max a c) (min b d)) (M.pd (max a c)),M.pick (M.aJ (max a c) (min b d)) (M.pn (min b d)),M.pick (M.aJ (max a c) (min b d)) (M.pd (min b d))],M.aJ (max a c) (min b d)])/\Below w.heap.size w w':=by
 obtain ⟨ab,a1,b1⟩:=M.bj hab;obtain ⟨cd,c1,d1⟩:=M.bj hcd
 have E1:=fun W=>dz a b W (M.bC (by omega) (by omega)) (M.bC (by omega) (by omega))
 have E2:=fun W=>dz c d W (M.bC (by omega) (by omega)) (M.bC (by omega) (by omega))
 have PT:=DB fun W=>y7 a b c d W hab hcd
 have PX:=DB fun W=>d6 a c W
 have PY:=DB fun W=>mY b d W
 have PM:=fun W=>gW (max a c) (min b d) W (by omega) (by omega) (by omega) (by omega)
 generalize M.aJ (max a c) (min b d)=s,M.pick (M.aJ (max a c) (min b d)) (M.pd (min b d))=p4,M.pick (M.aJ (max a c) (min b d)) (M.pn (min b d))=p3,M.pick (M.aJ (max a c) (min b d)) (M.pd (max a c))=p2,M.pick (M.aJ (max a c) (min b d)) (M.pn (max a c))=p1 at *;replace PM:=DB PM;replace E1:=DB E1;replace E2:=DB E2;generalize hn1:M.pn a=n1 at *;generalize hd1:M.pd a=d1 at *;generalize hn2:M.pn b=n2 at *;generalize hd2:M.pd b=d2 at *;generalize HA:M.pn c=n3 at *;generalize hd3:M.pd c=d3 at *;generalize FB:M.pn d=n4 at *;generalize hd4:M.pd d=d4 at *;clear hn1 hn2 HA FB hd1 hd2 hd3 hd4;obtain ⟨wc,hw3,V,U,R,B⟩:=cZ w #[n1,d1,n2,d2] 78 #[n3,d3,n4,d4] 78 #[(0:Int),(0:Int),(0:Int),(0:Int)] 78;have DU:=V.aL.c0;have DV:=V.aL.c1;have D5:=V.aL.c2;have D6:=V.aL.c3;have DW:=U.aL.c0;have DX:=U.aL.c1;have ED:=U.aL.c2;have EE:=U.aL.c3;have p_:=R.aL.c0;have r_:=R.aL.c1;have y_:=R.aL.c2;have A_:=R.aL.c3;go_enter Tryz.func158,Tryz.ntmps158
 go_wp2_with (first
  | (go_at_call 166;(with_reducible refine (PT.out _).mono ?_);rintro e w4 ⟨rfl,hb4⟩;replace V:=V.keep hb4;replace U:=U.keep hb4;replace R:=R.keep hb4;replace B:=d_ B hb4;(replace ⟨DU,DV,D5,D6⟩:=V.b4);(replace ⟨DW,DX,ED,EE⟩:=U.b4);(replace ⟨p_,r_,y_,A_,s_,t_,C_,DG⟩:=R.Da))
  | (go_at_call 140;(with_reducible refine (E1.out _).mono ?_);rintro e w5 ⟨rfl,hb5⟩;replace V:=V.keep hb5;replace U:=U.keep hb5;replace R:=R.keep hb5;replace B:=d_ B hb5;(replace ⟨DU,DV,D5,D6⟩:=V.b4);(replace ⟨DW,DX,ED,EE⟩:=U.b4);(replace ⟨p_,r_,y_,A_,s_,t_,C_,DG⟩:=R.Da))
  | (go_at_call 140;(with_reducible refine (E2.out _).mono ?_);rintro e w6 ⟨rfl,hb6⟩;replace V:=V.keep hb6;replace U:=U.keep hb6;replace R:=R.keep hb6;replace B:=d_ B hb6;(replace ⟨DU,DV,D5,D6⟩:=V.b4);(replace ⟨DW,DX,ED,EE⟩:=U.b4);(replace ⟨p_,r_,y_,A_,s_,t_,C_,DG⟩:=R.Da))
  | (go_at_call 94;(with_reducible refine (PX.out _).mono ?_);rintro e w7 ⟨rfl,rfl⟩)
  | (go_at_call 141;(with_reducible refine (PY.out _).mono ?_);rintro e w8 ⟨rfl,rfl⟩)
  | (go_at_call 142;(with_reducible refine (PM.out _).mono ?_);rintro e w9 ⟨rfl,DP⟩;replace V:=V.keep DP;replace U:=U.keep DP;replace R:=R.keep DP;replace B:=d_ B DP;(replace ⟨DU,DV,D5,D6⟩:=V.b4);(replace ⟨DW,DX,ED,EE⟩:=U.b4);(replace ⟨p_,r_,y_,A_,s_,t_,C_,DG⟩:=R.Da)))
 exact bodyPost_ret (v:=.tuple #[.agg #[p1,p2,p3,p4],s]) (by simp [results,Tryz.results158,go_sem, *]) rfl (⟨rfl,D9 B⟩)
theorem yz (a b c d:Int) (w:World) (hab:M.aJ a b=true) (hcd:M.aJ c d=true) :
  Calls Tryz.prog 121 #[.agg #[M.pn a,M.pd a,M.pn b,M.pd b],.agg #[M.pn c,M.pd c,M.pn d,M.pd d]] w fun e w'=>e=.returned (.tuple #[.agg #[M.pick (M.aJ (M.cI a b c d / 4096) (-(-M.cG a b c d / 4096))) (M.pn (M.cI a b c d / 4096)),M.pick (M.aJ (M.cI a b c d / 4096) (-(-M.cG a b c d / 4096))) (M.pd (M.cI a b c d / 4096)),M.pick (M.aJ (M.cI a b c d / 4096) (-(-M.cG a b c d / 4096))) (M.pn (-(-M.cG a b c d / 4096))),M.pick (M.aJ (M.cI a b c d / 4096) (-(-M.cG a b c d / 4096))) (M.pd (-(-M.cG a b c d / 4096)))],M.aJ (M.cI a b c d / 4096) (-(-M.cG a b c d / 4096))])/\Below w.heap.size w w':=by
 obtain ⟨ab,a1,b1⟩:=M.bj hab;obtain ⟨cd,c1,d1⟩:=M.bj hcd
 have E1:=fun W=>dz a b W (M.bC (by omega) (by omega)) (M.bC (by omega) (by omega))
 have E2:=fun W=>dz c d W (M.bC (by omega) (by omega)) (M.bC (by omega) (by omega))
 have q1:=M.aH (x:=a) (y:=c) (m:=1000000000) (n:=1000000000);have q2:=M.aH (x:=a) (y:=d) (m:=1000000000) (n:=1000000000);have q3:=M.aH (x:=b) (y:=c) (m:=1000000000) (n:=1000000000);have q4:=M.aH (x:=b) (y:=d) (m:=1000000000) (n:=1000000000);obtain ⟨t1,t2,t3,t4⟩:=M.Ag (a:=a) (b:=b) (c:=c) (d:=d) (by omega) (by omega) (by omega) (by omega) (by omega) (by omega) (by omega) (by omega)
 have EL:min (min (a*c) (a*d)) (min (b*c) (b*d))=M.cI a b c d:=by unfold M.cI;omega
 have hma:max (max (a*c) (a*d)) (max (b*c) (b*d))=M.cG a b c d:=by unfold M.cG;omega
 have f1:=dX (a:=M.cI a b c d) (b:=4096) (k:=1000000000000000000) (by omega) (by omega) (by omega) (by omega);have f2:=dX (a:=-M.cG a b c d) (b:=4096) (k:=1000000000000000000) (by omega) (by omega) (by omega) (by omega)
 have PX:=DB fun x y W=>d6 x y W
 have PY:=DB fun x y W=>mY x y W
 have PD:=fun W=>lF (M.cI a b c d) 4096 W (by omega) (by omega) (by omega) (by omega)
 have PU:=fun W=>wu (M.cG a b c d) 4096 W (by omega) (by omega) (by omega) (by omega)
 have PM:=fun W=>gW (M.cI a b c d / 4096) (-(-M.cG a b c d / 4096)) W (by omega) (by omega) (by omega) (by omega)
 generalize M.aJ (M.cI a b c d / 4096) (-(-M.cG a b c d / 4096))=s,M.pick (M.aJ (M.cI a b c d / 4096) (-(-M.cG a b c d / 4096))) (M.pd (-(-M.cG a b c d / 4096)))=p4,M.pick (M.aJ (M.cI a b c d / 4096) (-(-M.cG a b c d / 4096))) (M.pn (-(-M.cG a b c d / 4096)))=p3,M.pick (M.aJ (M.cI a b c d / 4096) (-(-M.cG a b c d / 4096))) (M.pd (M.cI a b c d / 4096))=p2,M.pick (M.aJ (M.cI a b c d / 4096) (-(-M.cG a b c d / 4096))) (M.pn (M.cI a b c d / 4096))=p1 at *;replace PM:=DB PM;replace E1:=DB E1;replace E2:=DB E2;generalize M.cG a b c d=ma,M.cI a b c d=mi,-(-M.cG a b c d / 4096)=hi,M.cI a b c d / 4096=lo at *
 have PD:=DB fun x W (h:x=mi)=>(h ▸ PD W:Calls Tryz.prog 143 #[x,(4096:Int)] W fun e w'=>e=.returned (.int .i64 lo)/\W=w')
 have PU:=DB fun x W (h:x=ma)=>(h ▸ PU W:Calls Tryz.prog 144 #[x,(4096:Int)] W fun e w'=>e=.returned (.int .i64 hi)/\W=w')
 replace EL:=DB EL;replace hma:=DB hma;clear t1 t2 t3 t4 f1 f2;generalize hn1:M.pn a=n1 at *;generalize hd1:M.pd a=d1 at *;generalize hn2:M.pn b=n2 at *;generalize hd2:M.pd b=d2 at *;generalize HA:M.pn c=n3 at *;generalize hd3:M.pd c=d3 at *;generalize FB:M.pn d=n4 at *;generalize hd4:M.pd d=d4 at *;clear hn1 hn2 HA FB hd1 hd2 hd3 hd4;obtain ⟨wc,hw3,V,U,R,B⟩:=cZ w #[n1,d1,n2,d2] 78 #[n3,d3,n4,d4] 78 #[(0:Int),(0:Int),(0:Int),(0:Int)] 78;have DU:=V.aL.c0;have DV:=V.aL.c1;have D5:=V.aL.c2;have D6:=V.aL.c3;have DW:=U.aL.c0;have DX:=U.aL.c1;have ED:=U.aL.c2;have EE:=U.aL.c3;have p_:=R.aL.c0;have r_:=R.aL.c1;have y_:=R.aL.c2;have A_:=R.aL.c3;go_enter Tryz.func121,Tryz.ntmps121
 go_wp2_with (first
  | (go_at_call 140;(with_reducible refine (E1.out _).mono ?_);rintro e w4 ⟨rfl,hb4⟩;replace V:=V.keep hb4;replace U:=U.keep hb4;replace R:=R.keep hb4;replace B:=d_ B hb4;(replace ⟨DU,DV,D5,D6⟩:=V.b4);(replace ⟨DW,DX,ED,EE⟩:=U.b4);(replace ⟨p_,r_,y_,A_,s_,t_,C_,DG⟩:=R.Da))
  | (go_at_call 140;(with_reducible refine (E2.out _).mono ?_);rintro e w5 ⟨rfl,hb5⟩;replace V:=V.keep hb5;replace U:=U.keep hb5;replace R:=R.keep hb5;replace B:=d_ B hb5;(replace ⟨DU,DV,D5,D6⟩:=V.b4);(replace ⟨DW,DX,ED,EE⟩:=U.b4);(replace ⟨p_,r_,y_,A_,s_,t_,C_,DG⟩:=R.Da))
  | (go_at_call 94;(with_reducible refine (PX.out _ _ _).mono ?_);rintro e w6 ⟨rfl,rfl⟩)
  | (go_at_call 141;(with_reducible refine (PY.out _ _ _).mono ?_);rintro e w7 ⟨rfl,rfl⟩)
  | (go_at_call 143;(with_reducible refine (PD.out _ _ (by have:=EL.out;omega)).mono ?_);rintro e w8 ⟨rfl,rfl⟩)
  | (go_at_call 144;(with_reducible refine (PU.out _ _ (by have:=hma.out;omega)).mono ?_);rintro e w9 ⟨rfl,rfl⟩)
  | (go_at_call 142;(with_reducible refine (PM.out _).mono ?_);rintro e Mm ⟨rfl,DH⟩;replace V:=V.keep DH;replace U:=U.keep DH;replace R:=R.keep DH;replace B:=d_ B DH;(replace ⟨DU,DV,D5,D6⟩:=V.b4);(replace ⟨DW,DX,ED,EE⟩:=U.b4);(replace ⟨p_,r_,y_,A_,s_,t_,C_,DG⟩:=R.Da)))
 exact bodyPost_ret (v:=.tuple #[.agg #[p1,p2,p3,p4],s]) (by simp [results,Tryz.results121,go_sem, *]) rfl (⟨rfl,D9 B⟩)
end
end Go.Proofs.YtkalaljcbmkbmaaGreat
