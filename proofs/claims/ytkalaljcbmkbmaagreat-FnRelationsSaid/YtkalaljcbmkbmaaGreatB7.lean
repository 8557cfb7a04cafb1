/-
  Joined texts: contracts and plain lemmas.
-/
import Derived.Test.YtkalaljcbmkbmaaGreatB1
import Derived.Test.YtkalaljcbmkbmaaGreatB6
import Derived.Test.YtkalaljcbmkbmaaGreatB2
import Derived.Deep.DeepCutAuto
import Derived.Deep.RegionWith
set_option linter.unusedSimpArgs false
set_option linter.unusedVariables false
set_option maxRecDepth 100000
set_option maxHeartbeats 8000000
namespace Go.Proofs.YtkalaljcbmkbmaaGreat
open Tryz
section
open Go.RowKit open Gr M Rg Rw Wh
namespace M
inductive Out where
 | inf
 | bad
 | val (x z:Int)
def nx (a b:Int):Out->Out
 | .val x z=>if ae a b x z=0 then .inf else if fL (aO a b) (ai a b x z) (ae a b x z)=true then .val (Wh.MO (aO a b) (ai a b x z) (ae a b x z)) (Wh.MN (aO a b) (ai a b x z) (ae a b x z)) else .bad
 | o=>o
def run (a b:Int):Nat->Out->Out
 | 0,o=>o
 | k+1,o=>nx a b (run a b k o)
theorem rY {a b:Int} {o:Out} {k:Nat} (h:run a b k o=.inf):∀ n,k<=n->run a b n o=.inf
 | 0,hn=>by
        obtain rfl:k=0:=ω
        exact h
 | n+1,hn=>by
  by_cases e:k=n+1
  ·exact e ▸ h
  show nx a b (run a b n o)=.inf
  rw [rY h n ω];rfl
theorem rX {a b:Int} {o:Out} {k:Nat} (h:run a b k o=.bad):∀ n,k<=n->run a b n o=.bad
 | 0,hn=>by
        obtain rfl:k=0:=ω
        exact h
 | n+1,hn=>by
  by_cases e:k=n+1
  ·exact e ▸ h
  show nx a b (run a b n o)=.bad
  rw [rX h n ω];rfl
def fB:Out->Int
 | .val x z=>max (Wh.bl x.natAbs:Nat) (Wh.bl z.natAbs:Nat)
 | _=>0
def isInf:Out->Bool
 | .inf=>true
 | _=>false
def isOk:Out->Bool
 | .bad=>false
 | _=>true
def aX (a b X E:Int) (n:Nat):Out:=if E=0 then .inf else run a b n (.val X (E*E))
end M
namespace Wh
theorem sS {n k:Nat} (h:n<2 ^ k):bl n<=k:=by
 unfold bl
 split
 ·omega
 rename_i h0
 have:=(Nat.log2_lt h0 (k:=k)).2 h;omega
theorem oy {z:Int} {n:Nat} (h:sz z n):bl z.natAbs<=14*n:=by
 refine sS (Nat.lt_of_lt_of_le h ?_);rw [Nat.pow_mul];exact Nat.pow_le_pow_left δ n
theorem ol {x z:Int} (h:eA x z=true):sz x 1000/\sz z 1000:=by
 unfold eA M.ins at h;simp only [Bool.and_eq_true,decide_eq_true_eq] at h;exact ⟨aL (aR.1 h.1.1) ω,aL (aR.1 (show (a_ z.natAbs).length<=80 by omega)) ω⟩
theorem nY {D F G:Int} (h:fL D F G=true):eA (MO D F G) (MN D F G)=true:=by
 unfold fL at h;rw [Bool.and_eq_true] at h;exact h.2
end Wh
def uR (base:Nat) (x z:Int) (v:Value) (W:World):Prop:=∃ s1 s2,v=.agg #[decide (x<0),s1,decide (z<0),s2]/\aF W base s1 (Wh.a_ x.natAbs)/\aF W base s2 (Wh.a_ z.natAbs)
theorem uR.view {base:Nat} {x z:Int} {v:Value} {W:World} (h:uR base x z v W):∃ (s:Bool) (a:Option Addr) (l c:Nat),Hid (s=decide (x<0))/\∃ (r:Bool) (b:Option Addr) (m d:Nat),Hid (r=decide (z<0))/\v=.agg #[s,.slice a l c,r,.slice b m d]/\aF W base (.slice a l c) (Wh.a_ x.natAbs)/\aF W base (.slice b m d) (Wh.a_ z.natAbs):=by
 obtain ⟨s1,s2,rfl,h1,h2⟩:=h;obtain ⟨a,c,rfl,-,-⟩:=aF.view h1;obtain ⟨b,d,rfl,-,-⟩:=aF.view h2;exact ⟨_,a,_,c,IU rfl,_,b,_,d,IU rfl,rfl,h1,h2⟩
theorem uR.UO {base k j:Nat} {x z:Int} {s1 s2:Value} {W:World} (h1:aF W k s1 (Wh.a_ x.natAbs)) (h2:aF W j s2 (Wh.a_ z.natAbs)) (hk:base<=k) (hj:base<=j):(Rg.Val.at (uR base x z)).ok (.agg #[decide (x<0),s1,decide (z<0),s2]) W:=fun _ hb=>⟨s1,s2,rfl,(aF.below h1 hb).base hk,(aF.below h2 hb).base hj⟩
theorem mG (q:Bool) (A:Option Addr) (L C:Nat) (W:World):Sem.run prog (Instr.field 116 (.agg #[q,.slice A L C]) 1) W=.ok (.slice A L C) W:=κ
theorem aG.aM {W:World} {g:Nat} {T:TypeId} {u v x:Value} (h:aG W g T #[u,v,x]):W.cell? ⟨g,0,none⟩=some u/\W.cell? ⟨g,1,none⟩=some v/\W.cell? ⟨g,2,none⟩=some x:=⟨h.cell 0,h.cell 1,h.cell 2⟩
theorem z6 (a b X Y E:Int) (n:Nat) (w:World) (hg:M.good a b=true) (hX1:-10000<=X) (hX2:X<=10000) (hE1:0<=E) (hE2:E<=20) (hn:n<=5) :
  cB 159 #[.agg #[a,b],.agg #[X,Y,E],.int .i64 (n:Int)] w (.tuple #[fB (aX a b X E n),M.isInf (aX a b X E n),M.isOk (aX a b X E n)]):=by
 have C:=(aG.new w #[a,b] 25).alloc (.cells #[X,Y,E] 40)
 have Q:=(aG.new (w.alloc (.cells #[a,b] 25)) #[X,Y,E] 40)
 rw [IV] at Q;have B:=((IX w w).alloc (IY _) (.cells #[a,b] 25)).alloc (by rw [IV];omega) (.cells #[X,Y,E] 40)
 have Lg:w.heap.size+2<=((w.alloc (.cells #[a,b] 25)).alloc (.cells #[X,Y,E] 40)).heap.size:=by rw [IV,IV];omega
 generalize hw3:(w.alloc (.cells #[a,b] 25)).alloc (.cells #[X,Y,E] 40)=wc at *;have ⟨q0,q1,q2⟩:=Q.aM;have f_:=C.box.c0;have i_:=C.box.c1
 by_cases h0:E=0
 ·subst h0
  have hz0:aX a b X 0 n=.inf:=rfl;rw [hz0];clear hz0;go_enter func159,ntmps159
  go_wp2;exact D_ results159 ⟨rfl,B⟩
 have hE:1<=E:=ω
 have R_:1<=E*E/\E*E<=400:=⟨by have:=Int.mul_le_mul hE hE ω ω;omega,by have:=Int.mul_le_mul hE2 hE2 ω ω;omega⟩
 have hE0:(E == 0)=false:=by rw [beq_eq_false_iff_ne];exact h0
 have hout:aX a b X E n=M.run a b n (.val X (E*E)):=if_neg h0;rw [hout];clear hout h0;obtain ⟨e1,e2⟩:=R_
 have P1:=IU fun W=>br X W ω ω
 have P2:=IU fun W=>br (E*E) W ω ω
 have zX:Wh.sz X 1000:=aL (be ω ω) ω;have zE:Wh.sz (E*E) 1000:=aL (be ω ω) ω;have zX:=IU zX;have zE:=IU zE
 have hb2:-10000<=b/\b<=10000:=⟨(aW (aY hg)).2.2.1,(aW (aY hg)).2.2.2⟩
 have ha2:-1000<=a/\a<=1000:=⟨(aW (aY hg)).1,(aW (aY hg)).2.1⟩
 obtain ⟨hb1,hb2⟩:=hb2;obtain ⟨ha1,ha2⟩:=ha2;have hg:=IU hg
 have PG:=IU fun (x z:Int) (s r:Bool) v v' W k k' (h1:aF W k v (Wh.a_ x.natAbs)) (h2:aF W k' v' (Wh.a_ z.natAbs)) (hx:Wh.sz x 1000) (hz:Wh.sz z 1000) (hs:s=decide (x<0)) (hr:r=decide (z<0))=>(hs ▸ hr ▸ fM a b x z v v' W k k' h1 h2 hx hz ha1 ha2 hb1 hb2:Calls prog 167 #[.agg #[a,b],.agg #[s,v,r,v']] W fun e w'=>∃ sl,e=.returned (.agg #[decide (ae a b x z<0),sl])/\aZ w' W sl (ae a b x z)/\Below W W w')
 have PD:=IU fun (x z:Int) (s r:Bool) v v' W k k' (h1:aF W k v (Wh.a_ x.natAbs)) (h2:aF W k' v' (Wh.a_ z.natAbs)) (hx:Wh.sz x 1000) (hz:Wh.sz z 1000) (hs:s=decide (x<0)) (hr:r=decide (z<0))=>(hs ▸ hr ▸ xx a b x z v v' W k k' hg.out h1 h2 hx hz:Calls prog 168 #[.agg #[a,b],.agg #[s,v,r,v']] W fun e w'=>∃ v1 v2,e=.returned (.tuple #[.agg #[decide (Wh.Kh (aO a b) (ai a b x z) (ae a b x z)<0),v1,decide (Wh.Ki (aO a b) (ai a b x z) (ae a b x z)<0),v2],fL (aO a b) (ai a b x z) (ae a b x z)])/\aZ w' W v1 (Wh.Kh (aO a b) (ai a b x z) (ae a b x z))/\aZ w' W v2 (Wh.Ki (aO a b) (ai a b x z) (ae a b x z))/\Below W W w')
 have PB:=IU fun (x:Int) (s:Bool) v W k (h1:aF W k v (Wh.a_ x.natAbs)) (hx:Wh.sz x 1000) (hs:s=decide (x<0))=>(hs ▸ sR x v W k h1 (aR.2 (aL hx ω)) (Nat.le_trans (oy hx) ω):cB 169 #[.agg #[s,v]] W (.int .i64 (Wh.bl x.natAbs:Nat)))
 clear ha1 ha2 hb1 hb2
 have XI:=fun q A L C W=>mG q A L C W
 have i2:IntKind.i64.wrap (E*E)=E*E:=IntWalk.i64_in _ ω;have i2:=IU i2;go_enter func159,ntmps159
 go_upto_region 3 with fail
 refine b8 11 [.is (.pointer (some ⟨w.heap.size+1,0,none⟩)),.is X,.at (aI (wc.heap.size) (X)),.is (.pointer (some ⟨w.heap.size+1,2,none⟩)),.is E,.is (.pointer (some ⟨w.heap.size+1,2,none⟩)),.is E,.is (E*E:Int),.at (aI (wc.heap.size) (E*E)),.at (uR (wc.heap.size) (X) (E*E)),.new (wc.heap.size) 174 #[false,.slice none 0 0,false,.slice none 0 0]] κ κ κ ⟨?_,?_,?_,?_,?_,?_,?_,?_,?_,?_,?_,fun h_=>absurd h_ δ,trivial⟩ ?_
 all_goals try ((first | (refine Rg.b1 ?_;intro zZ w_ hB e) | (refine Rg.b2 ?_;intro zZ w_ hB e f));have kz:=aE hB Q.aM.1;have kz:=aE hB Q.aM.2.2;(first | (go_simp;done) | (go_simp;exact Rg.wo ω)))
 ·refine Rg.o1 ?_;intro zZ w_ hB e
  have ef:=Rg.ef zZ;refine af rfl τ ?_;exact aI.ret hB (P1.out _)
 ·refine Rg.o1 ?_;intro zZ w_ hB e
  have ef:=Rg.ef zZ;refine af rfl τ ?_;exact aI.ret hB (P2.out _)
 ·intro _ zZ w_ hB hr
  obtain ⟨NQ,a17,NO,c17,NE,e17,Tt⟩:=aI.get (hr 17 δ);obtain ⟨s23,a23,l23,c23,NG,e23,Qf⟩:=aI.get (hr 23 δ);obtain rfl:=NE.out;obtain rfl:=NG.out;exact Gd rfl (by first | (go_simp;done) | (go_simp;rfl)) (uR.UO Tt Qf (IY _) (IY _))
 ·intro _ zZ w_ hB hr
  exact ⟨by have:=hB.size;omega,rfl,by first | (go_simp;done) | (go_simp;rfl)⟩
 intro vals wz hB hv hne;have n9:(Rg.Val.new (wc.heap.size) 174 #[false,.slice none 0 0,false,.slice none 0 0]).ok (vals 10) wz:=hv 10 δ;have n24:(Rg.Val.at (uR (wc.heap.size) (X) (E*E))).ok (vals 9) wz:=hv 9 δ;simp only [bD,Rg.fill,Act.put,Nat.reduceAdd];clear hv;obtain ⟨g9,Kv,JJ,o9⟩:=n9;replace o9:aG wz g9 174 #[false,.slice none 0 0,false,.slice none 0 0]:=o9;obtain ⟨s24,a24,Nb,c24,Md,Qm,O5,m24,Pn,ST,J9,RL,p24⟩:=(cE n24).view;simp only [JJ,J9];clear JJ J9;have ⟨p0,p1,p2,p3,y0,y1,y2,y3,_⟩:=o9.aK;have R:=aG.pR o9 (.bool s24) (.slice a24 Nb c24) (.bool Qm) (.slice O5 m24 Pn);have ox:=IU (aF.base (aF.du RL o9 δ (.bool s24) (.slice a24 Nb c24) (.bool Qm) (.slice O5 m24 Pn)) (Nat.zero_le _));have oz:=IU (aF.base (aF.du p24 o9 δ (.bool s24) (.slice a24 Nb c24) (.bool Qm) (.slice O5 m24 Pn)) (Nat.zero_le _))
 have hkg:w.heap.size+2<=g9:=ω
 have B2:Below w w ((((wz.setCell ⟨g9,0,none⟩ (.bool s24)).setCell ⟨g9,1,none⟩ (.slice a24 Nb c24)).setCell ⟨g9,2,none⟩ (.bool Qm)).setCell ⟨g9,3,none⟩ (.slice O5 m24 Pn)):=IW (IW (IW (IW (j_ B hB) (by simp <;> omega) _) (by simp <;> omega) _) (by simp <;> omega) _) (by simp <;> omega) _;have C2:=((((C.keep hB).other (i:=0) (show w.heap.size≠g9 by omega) (.bool s24)).other (i:=1) (show w.heap.size≠g9 by omega) (.slice a24 Nb c24)).other (i:=2) (show w.heap.size≠g9 by omega) (.bool Qm)).other (i:=3) (show w.heap.size≠g9 by omega) (.slice O5 m24 Pn);unfold aV aV Oper.wp;go_simp
 clear p0 p1 p2 p3 y0 y1 y2 y3 o9 RL p24 hB B Q q0 q1 q2 f_ i_ C Lg Kv i2 P1 P2 hE0 hw3;generalize ((((wz.setCell ⟨g9,0,none⟩ (.bool s24)).setCell ⟨g9,1,none⟩ (.slice a24 Nb c24)).setCell ⟨g9,2,none⟩ (.bool Qm)).setCell ⟨g9,3,none⟩ (.slice O5 m24 Pn))=wd at *;have L6:M.run a b 0 (.val X (E*E))=.val X (E*E):=rfl;generalize hZ:E*E=Z at *;replace hZ:=IU hZ;replace L6:=IU L6;go_wp2
 go_loopw [26] (fun vi wr=>∃ (k:Nat) (x z:Int) (s:Bool) (av:Option Addr) (lv cv:Nat) (r:Bool) (bv:Option Addr) (mv dv:Nat),k<=n/\vi=.int .i64 k/\Hid (M.run a b k (.val X Z)=.val x z)/\aG wr g9 174 #[s,.slice av lv cv,r,.slice bv mv dv]/\aF wr 0 (.slice av lv cv) (Wh.a_ x.natAbs)/\aF wr 0 (.slice bv mv dv) (Wh.a_ z.natAbs)/\Hid (s=decide (x<0))/\Hid (r=decide (z<0))/\Wh.sz x 1000/\Wh.sz z 1000/\aG wr w 25 #[a,b]/\Below w w wr) (fun vi _=>n - (intOf vi).toNat)
 case atStart=>exact ⟨0,X,Z,s24,a24,Nb,c24,Qm,O5,m24,Pn,Nat.zero_le _,rfl,L6,R,ox.out,oz.out,Md,ST,zX.out,zE.out,C2,B2⟩
 case round=>
 clear R ox oz C2 B2 L6 Md ST zX zE;obtain ⟨k,x,z,s,av,lv,cv,r,bv,mv,dv,hk,rfl,hrun,R,ox,oz,hs,hr,zx,zz,C,B⟩:=hrel;have ox:=IU ox;have oz:=IU oz;have zx:=IU zx;have zz:=IU zz;have B_:=R.aK.c0;have C_:=R.aK.c1;have F_:=R.aK.c2;have G_:=R.aK.c3;have f_:=C.box.c0;have i_:=C.box.c1
 by_cases hlt:k<n
 ·have Oz:=IU fun v v' W i j h1 h2=>PG.out x z s r v v' W i j h1 h2 zx.out zz.out hs.out hr.out
  have Kg:=IU fun v v' W i j h1 h2=>PD.out x z s r v v' W i j h1 h2 zx.out zz.out hs.out hr.out
  have hnx:M.run a b (k+1) (.val X Z)=M.nx a b (.val x z):=by show M.nx a b (M.run a b k (.val X Z))=_;rw [hrun.out]
  unfold M.nx at hnx
  dsimp only at hnx
  clear PG PD PB hs hr
  have Ko:=fun h=>ol (nY (D:=aO a b) (F:=ai a b x z) (G:=ae a b x z) h)
  have N6:fL (aO a b) (ai a b x z) (ae a b x z)=true->Wh.Kh (aO a b) (ai a b x z) (ae a b x z)=Wh.MO (aO a b) (ai a b x z) (ae a b x z)/\Wh.Ki (aO a b) (ai a b x z) (ae a b x z)=Wh.MN (aO a b) (ai a b x z) (ae a b x z):=fun h=>by unfold Wh.Kh Wh.Ki;rw [if_pos h,if_pos h];exact ⟨rfl,rfl⟩
  generalize fL (aO a b) (ai a b x z) (ae a b x z)=ok,Wh.MN (aO a b) (ai a b x z) (ae a b x z)=dd,Wh.MO (aO a b) (ai a b x z) (ae a b x z)=nn,Wh.Ki (aO a b) (ai a b x z) (ae a b x z)=z',Wh.Kh (aO a b) (ai a b x z) (ae a b x z)=x' at *;have hG0:=@gX (ae a b x z);generalize ae a b x z=G at *;generalize decide (G<0)=sg at *
  by_cases hG:G=0
  ·rw [if_pos hG] at hnx
   have hfin:=IU (rY hnx n ω);have hl0:=hG0.2 hG;clear hnx hG hG0 Ko N6 Kg;generalize QH:(Wh.a_ G.natAbs).length=lg at *;subst hl0;replace QH:=IU QH
   go_wp2_with (go_at_call 167;(with_reducible refine (Oz.out _ _ _ _ _ ox.out oz.out).mono ?_);rintro e w4 ⟨v4,rfl,Iq,hb4⟩;obtain ⟨a4,c4,rfl,I1,Ii⟩:=aF.view Iq;clear I1 Ii;(rw [QH.out] at Iq ⊢);replace ⟨C,R,B⟩:=I7 hb4 C R B;(replace ⟨f_,i_⟩:=C.b2);(replace ⟨B_,C_,F_,G_⟩:=R.b4))
   exact D_ (v:=.tuple #[(0:Int),true,true]) results159 ⟨by rw [hZ.out,hfin.out];rfl,B⟩
  rw [if_neg hG] at hnx
  have hl0:¬ (Wh.a_ G.natAbs).length=0:=fun h=>hG (hG0.1 h)
  have hlq:(((Wh.a_ G.natAbs).length:Int) == 0)=false:=by rw [beq_eq_false_iff_ne];omega
  clear hG hG0
  cases ok with
  | false=>
   have hfin:=IU (rX hnx n ω);clear hnx Ko N6;generalize decide (z'<0)=r',decide (x'<0)=s' at *
   go_wp2_with (first
    | (go_at_call 167;(with_reducible refine (Oz.out _ _ _ _ _ ox.out oz.out).mono ?_);rintro e w4 ⟨v4,rfl,Iq,hb4⟩;obtain ⟨a4,c4,rfl,I1,Ii⟩:=aF.view Iq;clear I1 Ii Iq;(generalize (Wh.a_ G.natAbs).length=lg at *);replace ⟨C,R⟩:=Im hb4 C R;replace ox:=kO ox hb4;replace oz:=kO oz hb4;replace B:=j_ B hb4;(replace ⟨f_,i_⟩:=C.b2);(replace ⟨B_,C_,F_,G_,y_,A_,IZ,Ia⟩:=R.I0))
    | (go_at_call 168;(with_reducible refine (Kg.out _ _ _ _ _ ox.out oz.out).mono ?_);rintro e w5 ⟨v5,u5,rfl,JU,LO,hb5⟩;replace ⟨C,R⟩:=Im hb5 C R;replace ox:=kO ox hb5;replace oz:=kO oz hb5;replace B:=j_ B hb5;obtain ⟨a5,c5,rfl,I1,Ii⟩:=aF.view JU;clear I1 Ii;obtain ⟨b5,d5,rfl,I1,Ii⟩:=aF.view LO;clear I1 Ii;have on:=IU (show aF _ _ _ _ from JU);have om:=IU (show aF _ _ _ _ from LO);clear JU LO;(generalize (Wh.a_ x'.natAbs).length=l5 at *);(generalize (Wh.a_ z'.natAbs).length=m5 at *);have N:=aG.new w5 #[s',.slice a5 l5 c5,r',.slice b5 m5 d5] 174;have b_:=bA w5 (.cells #[s',.slice a5 l5 c5,r',.slice b5 m5 d5] 174);replace ⟨C,R⟩:=Im b_ C R;replace ox:=kO ox b_;replace oz:=kO oz b_;replace on:=kO on b_;replace om:=kO om b_;replace B:=j_ B b_;clear b_;(replace ⟨f_,i_⟩:=C.b2);(replace ⟨B_,C_,F_,G_,y_,A_,IZ,Ia⟩:=R.I0);(replace ⟨Ll,Lm,Ln,Lo⟩:=N.b4)))
   exact D_ (v:=.tuple #[(0:Int),false,false]) results159 ⟨by rw [hZ.out,hfin.out];rfl,B⟩
  | true=>
  rw [if_pos rfl] at hnx;obtain ⟨hxn,hzn⟩:=N6 rfl;obtain ⟨zn,zd⟩:=Ko rfl;subst hxn hzn;clear N6 Ko;have zn:=IU zn;have zd:=IU zd;have hnx:=IU hnx;generalize hs5:decide (x'<0)=s' at *;generalize QM:decide (z'<0)=r' at *;replace hs5:=IU hs5.symm;replace QM:=IU QM.symm;clear hrun zx zz
  go_wp2_with (first
   | (go_at_call 167;(with_reducible refine (Oz.out _ _ _ _ _ ox.out oz.out).mono ?_);rintro e w4 ⟨v4,rfl,Iq,hb4⟩;obtain ⟨a4,c4,rfl,I1,Ii⟩:=aF.view Iq;clear I1 Ii Iq;(generalize (Wh.a_ G.natAbs).length=lg at *);replace ⟨C,R⟩:=Im hb4 C R;replace ox:=kO ox hb4;replace oz:=kO oz hb4;replace B:=j_ B hb4;(replace ⟨f_,i_⟩:=C.b2);(replace ⟨B_,C_,F_,G_,y_,A_,IZ,Ia⟩:=R.I0))
   | (go_at_call 168;(with_reducible refine (Kg.out _ _ _ _ _ ox.out oz.out).mono ?_);rintro e w5 ⟨v5,u5,rfl,JU,LO,hb5⟩;replace ⟨C,R⟩:=Im hb5 C R;replace ox:=kO ox hb5;replace oz:=kO oz hb5;replace B:=j_ B hb5;obtain ⟨a5,c5,rfl,I1,Ii⟩:=aF.view JU;clear I1 Ii;obtain ⟨b5,d5,rfl,I1,Ii⟩:=aF.view LO;clear I1 Ii;have on:=IU (show aF _ _ _ _ from JU);have om:=IU (show aF _ _ _ _ from LO);clear JU LO;(generalize (Wh.a_ x'.natAbs).length=l5 at *);(generalize (Wh.a_ z'.natAbs).length=m5 at *);have N:=aG.new w5 #[s',.slice a5 l5 c5,r',.slice b5 m5 d5] 174;have b_:=bA w5 (.cells #[s',.slice a5 l5 c5,r',.slice b5 m5 d5] 174);replace ⟨C,R⟩:=Im b_ C R;replace ox:=kO ox b_;replace oz:=kO oz b_;replace on:=kO on b_;replace om:=kO om b_;replace B:=j_ B b_;clear b_;(replace ⟨f_,i_⟩:=C.b2);(replace ⟨B_,C_,F_,G_,y_,A_,IZ,Ia⟩:=R.I0);(replace ⟨Ll,Lm,Ln,Lo⟩:=N.b4)))
  go_roundw
  case rel=>exact ⟨k+1,_,_,s',a5,l5,c5,r',b5,m5,d5,ω,ν,hnx,aG.pR R (.bool s') (.slice a5 l5 c5) (.bool r') (.slice b5 m5 d5),aF.base (aF.du on.out R δ (.bool s') (.slice a5 l5 c5) (.bool r') (.slice b5 m5 d5)) (Nat.zero_le _),aF.base (aF.du om.out R δ (.bool s') (.slice a5 l5 c5) (.bool r') (.slice b5 m5 d5)) (Nat.zero_le _),hs5,QM,zn.out,zd.out,(((C.other (show w.heap.size≠g9 by omega) _).other (show w.heap.size≠g9 by omega) _).other (show w.heap.size≠g9 by omega) _).other (show w.heap.size≠g9 by omega) _,Jk B⟩
  case measure=>simp [intOf] <;> omega
 obtain rfl:k=n:=ω
 have P1:=IU fun v W i h=>PB.out x s v W i h zx.out hs.out
 have P2:=IU fun v W i h=>PB.out z r v W i h zz.out hr.out
 have hfin:=IU (show fB (M.run a b k (.val X Z))=max ((Wh.bl x.natAbs:Nat):Int) ((Wh.bl z.natAbs:Nat):Int)/\M.isInf (M.run a b k (.val X Z))=false/\M.isOk (M.run a b k (.val X Z))=true by rw [hrun.out];exact ⟨rfl,rfl,rfl⟩)
 have hm1:(Wh.bl x.natAbs:Int)<=14000:=by have:=oy zx.out;omega
 have hm2:(Wh.bl z.natAbs:Int)<=14000:=by have:=oy zz.out;omega
 generalize Wh.bl z.natAbs=k2,Wh.bl x.natAbs=k1 at *;have hmax:=IU (show (if (k1:Int)<k2 then (k2:Int) else k1)=max (k1:Int) k2 by split <;> omega);clear PG PD PB hs hr zx zz hrun
 go_upto_region 13 with fail
 refine b8 10 [.is (.pointer (some ⟨g9,0,none⟩)),.is (.agg #[s,.slice av lv cv]),.is (.int .i64 (k1:Nat)),.is (.pointer (some ⟨g9,2,none⟩)),.is (.agg #[r,.slice bv mv dv]),.is (.int .i64 (k2:Nat)),.is (max (k1:Int) k2:Int),.is (max (k1:Int) k2:Int),.is false,.is true] κ κ κ ⟨?_,?_,?_,?_,?_,?_,?_,?_,?_,?_,trivial⟩ ?_
 all_goals try ((first | (refine Rg.b0 ?_;intro zZ w_ hB) | (refine Rg.b1 ?_;intro zZ w_ hB e) | (refine Rg.b2 ?_;intro zZ w_ hB e f));have kz:=aE hB R.aK.c0;have kz:=aE hB R.aK.c1;have kz:=aE hB R.aK.c2;have kz:=aE hB R.aK.c3;have ec:=Rg.ec zZ;(first | (go_simp;done) | (go_simp;first | done | (rw [hmax.out];done) | (simp only [hmax.out];done);done)))
 ·refine Rg.o1 ?_;intro zZ w_ hB e
  have ef:=Rg.ef zZ;exact bp rfl γ (P1.out _ _ _ (aF.below ox.out hB))
 ·refine Rg.o1 ?_;intro zZ w_ hB e
  have ef:=Rg.ef zZ;exact bp rfl γ (P2.out _ _ _ (aF.below oz.out hB))
 intro vals wy hB9 hv hne;have Kj:vals 7=.int .i64 (max (k1:Int) k2):=hv 7 δ;have NR:vals 8=.bool false:=hv 8 δ;have J9:vals 9=.bool true:=hv 9 δ;simp only [bD,Rg.fill,Act.put,Nat.reduceAdd];clear hv;simp only [Kj,NR,J9];clear Kj NR J9;unfold aV;go_wp2;exact D_ (v:=.tuple #[(max (k1:Int) k2:Int),false,true]) results159 ⟨by rw [hZ.out,hfin.out.1,hfin.out.2.1,hfin.out.2.2],j_ B hB9⟩
end
section
open Gr M Rg Rw Wh
namespace M
def Ab (x n:Int):Prop:=-n<=x/\x<=n
theorem Ab.of (x:Int):Ab x x.natAbs:=by unfold Ab;omega
theorem Ab.nn {x n:Int} (h:Ab x n):0<=n:=by unfold Ab at h;omega
theorem Ab.mul {x y m n:Int} (h:Ab x m) (k:Ab y n):Ab (x*y) (m*n):=aH h.1 h.2 k.1 k.2
theorem Ab.add {x y m n:Int} (h:Ab x m) (k:Ab y n):Ab (x+y) (m+n):=by unfold Ab at *;omega
theorem Ab.sub {x y m n:Int} (h:Ab x m) (k:Ab y n):Ab (x - y) (m+n):=by unfold Ab at *;omega
theorem Ab.neg {x n:Int} (h:Ab x n):Ab (-x) n:=by unfold Ab at *;omega
theorem Ab.le {x m n:Int} (h:Ab x m) (k:m<=n):Ab x n:=by unfold Ab at *;omega
theorem Ab.to {x n:Int} (h:Ab x n):x.natAbs<=n.toNat:=by unfold Ab at h;omega
theorem Ab.num {n:Int} (h:0<=n):Ab n n:=by unfold Ab;omega
theorem AA {n:Nat} (h:n≠0):2 ^ (Wh.bl n - 1)<=n:=by
 unfold Wh.bl;rw [if_neg h,Nat.add_sub_cancel];exact Nat.log2_self_le h
theorem nM (n:Nat):n<2 ^ Wh.bl n:=by
 unfold Wh.bl
 split
 ·rename_i h;subst h;decide
 exact Nat.lt_log2_self
theorem qT {n:Nat} (h:n≠0):1<=Wh.bl n:=by
 unfold Wh.bl;rw [if_neg h];omega
theorem wB {m n:Nat} (h:m<=n):Wh.bl m<=Wh.bl n:=sS (Nat.lt_of_le_of_lt h (nM n))
theorem Fp (m n:Nat):max (Wh.bl m) (Wh.bl n)=Wh.bl (max m n):=by
 rcases Nat.le_total m n with h | h
 ·rw [Nat.max_eq_right h,Nat.max_eq_right (wB h)]
 rw [Nat.max_eq_left h,Nat.max_eq_left (wB h)]
def hh (x z:Int):Nat:=max x.natAbs z.natAbs
def hb (x z:Int):Nat:=Wh.bl (hh x z)
theorem tD (x z:Int):Ab x (hh x z)/\Ab z (hh x z):=by unfold Ab hh;omega
theorem Hk {x z n:Int} (h:Ab x n) (k:Ab z n):((hh x z:Nat):Int)<=n:=by unfold Ab at *;unfold hh;omega
theorem Eg {a b x z h:Int} (hx:Ab x h) (hz:Ab z h):Ab (ai a b x z) ((1+2*a.natAbs+8*b.natAbs+a.natAbs*a.natAbs)*(h*h*h*h)):=by
 have ha:=Ab.of a;have hb:=Ab.of b;unfold ai
 have:=((((hx.mul hx).mul hx).mul hx).sub ((((((Ab.num (n:=2) δ).mul ha).mul hx).mul hx).mul hz).mul hz)).sub ((((((Ab.num (n:=8) δ).mul hb).mul hx).mul hz).mul hz).mul hz) |>.add ((((((ha.mul ha).mul hz).mul hz).mul hz).mul hz))
 refine this.le (Int.le_of_eq ?_)
 grind
theorem DB {a b x z h:Int} (hx:Ab x h) (hz:Ab z h):Ab (ae a b x z) (4*(1+a.natAbs+b.natAbs)*(h*h*h*h)):=by
 have ha:=Ab.of a;have hb:=Ab.of b;unfold ae;have:=((Ab.num (n:=4) δ).mul hz).mul ((((hx.mul hx).mul hx).add (((ha.mul hx).mul hz).mul hz)).add (((hb.mul hz).mul hz).mul hz));refine this.le (Int.le_of_eq ?_)
 grind
def r1 (a x z:Int):Int:=12*x*x*z+16*a*z*z*z
def r2 (a b x z:Int):Int:=3*x*x*x - 5*a*x*z*z - 27*b*z*z*z
def r3 (a b x z:Int):Int:=4*aO a b*x*x*x - 4*a*a*b*x*x*z+4*a*(3*a*a*a+22*b*b)*x*z*z+12*b*(a*a*a+8*b*b)*z*z*z
def r4 (a b x z:Int):Int:=a*a*b*x*x*x+a*(5*a*a*a+32*b*b)*x*x*z+2*b*(13*a*a*a+96*b*b)*x*z*z - 3*a*a*(a*a*a+8*b*b)*z*z*z
theorem FK (a b x z:Int):r1 a x z*ai a b x z - r2 a b x z*ae a b x z=4*aO a b*(z*z*z*z*z*z*z):=by
 unfold r1 r2 ai ae aO
 grind
theorem FJ (a b x z:Int):r3 a b x z*ai a b x z+r4 a b x z*ae a b x z=4*aO a b*(x*x*x*x*x*x*x):=by
 unfold r3 r4 ai ae aO
 grind
theorem H8 {a x z h:Int} (hx:Ab x h) (hz:Ab z h):Ab (r1 a x z) ((12+16*a.natAbs)*(h*h*h)):=by
 have ha:=Ab.of a;unfold r1;have:=((((Ab.num (n:=12) δ).mul hx).mul hx).mul hz).add (((((Ab.num (n:=16) δ).mul ha).mul hz).mul hz).mul hz);exact this.le (Int.le_of_eq φ)
theorem H9 {a b x z h:Int} (hx:Ab x h) (hz:Ab z h):Ab (r2 a b x z) ((3+5*a.natAbs+27*b.natAbs)*(h*h*h)):=by
 have ha:=Ab.of a;have hb:=Ab.of b;unfold r2;have:=(((((Ab.num (n:=3) δ).mul hx).mul hx).mul hx).sub (((((Ab.num (n:=5) δ).mul ha).mul hx).mul hz).mul hz)).sub (((((Ab.num (n:=27) δ).mul hb).mul hz).mul hz).mul hz);exact this.le (Int.le_of_eq φ)
theorem IA {a b x z h:Int} (hx:Ab x h) (hz:Ab z h):Ab (r3 a b x z) ((4*(aO a b).natAbs+4*a.natAbs*a.natAbs*b.natAbs+4*a.natAbs*(3*a.natAbs*a.natAbs*a.natAbs+22*b.natAbs*b.natAbs)+12*b.natAbs*(a.natAbs*a.natAbs*a.natAbs+8*b.natAbs*b.natAbs))*(h*h*h)):=by
 have ha:=Ab.of a;have hb:=Ab.of b;have hd:=Ab.of (aO a b);unfold r3;have t1:=((((Ab.num (n:=4) δ).mul hd).mul hx).mul hx).mul hx;have t2:=((((((Ab.num (n:=4) δ).mul ha).mul ha).mul hb).mul hx).mul hx).mul hz;have t3:=(((((Ab.num (n:=4) δ).mul ha).mul (((((Ab.num (n:=3) δ).mul ha).mul ha).mul ha).add (((Ab.num (n:=22) δ).mul hb).mul hb))).mul hx).mul hz).mul hz;have t4:=(((((Ab.num (n:=12) δ).mul hb).mul (((ha.mul ha).mul ha).add (((Ab.num (n:=8) δ).mul hb).mul hb))).mul hz).mul hz).mul hz;exact (((t1.sub t2).add t3).add t4).le (Int.le_of_eq φ)
theorem IC {a b x z h:Int} (hx:Ab x h) (hz:Ab z h):Ab (r4 a b x z) ((a.natAbs*a.natAbs*b.natAbs+a.natAbs*(5*a.natAbs*a.natAbs*a.natAbs+32*b.natAbs*b.natAbs)+2*b.natAbs*(13*a.natAbs*a.natAbs*a.natAbs+96*b.natAbs*b.natAbs)+3*a.natAbs*a.natAbs*(a.natAbs*a.natAbs*a.natAbs+8*b.natAbs*b.natAbs))*(h*h*h)):=by
 have ha:=Ab.of a;have hb:=Ab.of b;unfold r4;have t1:=((((ha.mul ha).mul hb).mul hx).mul hx).mul hx
 have t2:=((((ha.mul (((((Ab.num (n:=5) δ).mul ha).mul ha).mul ha).add (((Ab.num (n:=32) δ).mul hb).mul hb))).mul hx).mul hx).mul hz)
 have t3:=(((((Ab.num (n:=2) δ).mul hb).mul (((((Ab.num (n:=13) δ).mul ha).mul ha).mul ha).add (((Ab.num (n:=96) δ).mul hb).mul hb))).mul hx).mul hz).mul hz;have t4:=((((((Ab.num (n:=3) δ).mul ha).mul ha).mul (((ha.mul ha).mul ha).add (((Ab.num (n:=8) δ).mul hb).mul hb))).mul hz).mul hz).mul hz;exact (((t1.add t2).add t3).sub t4).le (Int.le_of_eq φ)
theorem AP {a b x z:Int} (h0:hh x z≠0) :
  4*((aO a b).natAbs:Int)*((hh x z:Int)*hh x z*hh x z*hh x z)<=hK a.natAbs b.natAbs (aO a b).natAbs*hh (ai a b x z) (ae a b x z):=by
 obtain ⟨hx,hz⟩:=tD x z;obtain ⟨hF,hG⟩:=tD (ai a b x z) (ae a b x z);have e1:=FK a b x z;have e2:=FJ a b x z;have k1:=((H8 (a:=a) hx hz).mul hF).sub ((H9 (a:=a) (b:=b) hx hz).mul hG);have k2:=((IA (a:=a) (b:=b) hx hz).mul hF).add ((IC (a:=a) (b:=b) hx hz).mul hG);rw [e1] at k1;rw [e2] at k2
 have hpos:(1:Int)<=hh x z:=ω
 have hN:(0:Int)<=hh (ai a b x z) (ae a b x z):=ω
 have hor:(hh x z:Int)=x.natAbs∨(hh x z:Int)=z.natAbs:=by unfold hh;omega
 generalize hh (ai a b x z) (ae a b x z)=N at *
 have ap:∀ u:Int,(4*aO a b*(u*u*u*u*u*u*u)).natAbs=4*(aO a b).natAbs*(u.natAbs*u.natAbs*u.natAbs*u.natAbs*u.natAbs*u.natAbs*u.natAbs):=fun u=>by simp [Int.natAbs_mul]
 have fin:∀ (u c:Int),(hh x z:Int)=u.natAbs->Ab (4*aO a b*(u*u*u*u*u*u*u)) (c*((hh x z:Int)*hh x z*hh x z)*N)->4*((aO a b).natAbs:Int)*((hh x z:Int)*hh x z*hh x z*hh x z)<=c*N:=fun u c hu hab=>by
  have h1:(((4*aO a b*(u*u*u*u*u*u*u)).natAbs:Nat):Int)<=c*((hh x z:Int)*hh x z*hh x z)*N:=by unfold Ab at hab;omega
  rw [ap] at h1
  push_cast at h1
  rw [←hu] at h1;have hq:(0:Int)<(hh x z:Int)*hh x z*hh x z:=Int.mul_pos (Int.mul_pos ω ω) ω;generalize (hh x z:Int)=h at *;refine Int.le_of_mul_le_mul_left (a:=h*h*h) ?_ hq
  calc h*h*h*(4*((aO a b).natAbs:Int)*(h*h*h*h))=4*((aO a b).natAbs:Int)*(h*h*h*h*h*h*h):=φ
   _<=_:=h1
   _=_:=φ
 unfold hK
 rcases hor with ho | ho
 ·refine Int.le_trans (fin x _ ho (k2.le (Int.le_of_eq ?_))) (Int.mul_le_mul_of_nonneg_right (Int.le_max_right _ _) hN)
  grind
 refine Int.le_trans (fin z _ ho (k1.le (Int.le_of_eq ?_))) (Int.mul_le_mul_of_nonneg_right (Int.le_max_left _ _) hN)
 grind
theorem Fw (a b x z:Int):(hh (ai a b x z) (ae a b x z):Int)<=hM a.natAbs b.natAbs*((hh x z:Int)*hh x z*hh x z*hh x z):=by
 obtain ⟨hx,hz⟩:=tD x z;have hp:(0:Int)<=(hh x z:Int)*hh x z*hh x z*hh x z:=Int.mul_nonneg (Int.mul_nonneg (Int.mul_nonneg ω ω) ω) ω;refine Hk ((Eg (a:=a) (b:=b) hx hz).le ?_) ((DB (a:=a) (b:=b) hx hz).le ?_)
 ·exact Int.mul_le_mul_of_nonneg_right (by unfold hM;exact Int.le_max_left _ _) hp
 exact Int.mul_le_mul_of_nonneg_right (by unfold hM;exact Int.le_max_right _ _) hp
theorem Cr {a b x z f g:Int} {d:Nat} (h0:hh x z≠0) (hd:d≠0) (hdD:d<=4*(aO a b).natAbs) (hF:ai a b x z=d*f) (hG:ae a b x z=d*g) :
  4*hb x z<=hb f g+hC a b+3/\hb f g<=4*hb x z+hC a b:=by
 have h1:=AP (a:=a) (b:=b) h0;have h2:=Fw a b x z
 have e:hh (ai a b x z) (ae a b x z)=d*hh f g:=by
  rw [hF,hG];unfold hh;simp only [Int.natAbs_mul,Int.natAbs_natCast];exact (Nat.mul_max_mul_left _ _ _)
 rw [e] at h1 h2;unfold hb hC
 have hKn:(0:Int)<=hK a.natAbs b.natAbs (aO a b).natAbs:=by
  unfold hK
  have:(0:Int)<=15+21*(a.natAbs:Int)+27*(b.natAbs:Int):=ω
  exact Int.le_trans this (Int.le_max_left _ _)
 have hMn:(0:Int)<=hM a.natAbs b.natAbs:=by
  unfold hM
  have:(0:Int)<=4*(1+(a.natAbs:Int)+(b.natAbs:Int)):=ω
  exact Int.le_trans this (Int.le_max_right _ _)
 obtain ⟨K,hK⟩:=Int.eq_ofNat_of_zero_le hKn;obtain ⟨M,hM⟩:=Int.eq_ofNat_of_zero_le hMn;rw [hK] at h1 ⊢;rw [hM] at h2 ⊢;generalize (aO a b).natAbs=D,hh f g=h',hh x z=h at *
 have eQ:(max (M:Int) (K:Int)).toNat=max M K:=ω
 rw [eQ]
 have h1:4*D*(h*h*h*h)<=K*(d*h'):=by exact_mod_cast h1
 have h2:d*h'<=M*(h*h*h*h):=by exact_mod_cast h2
 have hC:=nM (max M K);generalize Wh.bl (max M K)=C at *
 have hMC:M<2 ^ C:=ω
 have hKC:K<2 ^ C:=ω
 have hb1:=AA h0;have hb2:=nM h;have hb3:=qT h0;generalize Wh.bl h=B at *
 obtain ⟨B,rfl⟩:∃ c,B=c+1:=⟨B - 1,ω⟩
 rw [Nat.add_sub_cancel] at hb1
 have h3:h*h*h*h<=K*h':=by
  have hD:0<4*D:=ω
  refine Nat.le_of_mul_le_mul_left (c:=4*D) ?_ hD;refine Nat.le_trans h1 ?_
  calc K*(d*h')=d*(K*h'):=φ
   _<=4*D*(K*h'):=Nat.mul_le_mul_right _ hdD
 have h4:h'<=M*(h*h*h*h):=Nat.le_trans (Nat.le_mul_of_pos_left _ ω) h2
 have p1:2 ^ (4*B)<=h*h*h*h:=by
  calc 2 ^ (4*B)=2 ^ B*2 ^ B*2 ^ B*2 ^ B:=by rw [←Nat.pow_add,←Nat.pow_add,←Nat.pow_add];congr 1;omega
   _<=_:=Nat.mul_le_mul (Nat.mul_le_mul (Nat.mul_le_mul hb1 hb1) hb1) hb1
 have p2:h*h*h*h<2 ^ (4*(B+1)):=by
  calc h*h*h*h<2 ^ (B+1)*2 ^ (B+1)*2 ^ (B+1)*2 ^ (B+1):=Nat.mul_lt_mul'' (Nat.mul_lt_mul'' (Nat.mul_lt_mul'' hb2 hb2) hb2) hb2
   _=_:=by rw [←Nat.pow_add,←Nat.pow_add,←Nat.pow_add];congr 1;omega
 have p3:=nM h'
 constructor
 ·have:2 ^ (4*B)<2 ^ (C+Wh.bl h'):=by
   rw [Nat.pow_add 2 C]
   calc 2 ^ (4*B)<=K*h':=Nat.le_trans p1 h3
    _<_:=Nat.mul_lt_mul'' hKC p3
  have:=(Nat.pow_lt_pow_iff_right δ).1 this;omega
 refine sS (Nat.lt_of_le_of_lt h4 ?_);rw [Nat.pow_add,Nat.mul_comm];exact Nat.mul_lt_mul'' p2 hMC
end M
namespace M
theorem rU (x:Rat):x*((x.den:Int):Rat)=((x.num:Int):Rat):=by
 have h1:=Rat.num_divInt_den x;rw [Rat.divInt_eq_div] at h1
 have h:((x.den:Int):Rat)≠0:=by
  have:=x.den_nz
  exact_mod_cast this
 have h2:=Rat.div_mul_cancel (a:=(x.num:Rat)) h;rw [h1] at h2;exact h2
theorem EG {x:Rat} {m n:Int} (hn:0<n) (hc:Int.gcd m n=1) (h:x*(n:Rat)=(m:Rat)):x.num=m/\(x.den:Int)=n:=by
 have hz:(n:Rat)≠0:=by
  have:n≠0:=ω
  exact_mod_cast this
 have h1:x=Rat.divInt m n:=by
  rw [Rat.divInt_eq_div,←h,Rat.mul_div_cancel hz]
 obtain ⟨k,rfl⟩:=Int.eq_ofNat_of_zero_le (Int.le_of_lt hn)
 have hr:m.natAbs.Coprime k:=by simpa [Int.gcd] using hc
 have h2:x=⟨m,k,ω,hr⟩:=by
  rw [h1];exact (Rat.mk_eq_divInt (nz:=by omega) (c:=hr)).symm
 rw [h2];exact ⟨rfl,rfl⟩
namespace r_
def px:r_->Int
 | O=>1
 | .fin x _=>x.num
def pz:r_->Int
 | O=>0
 | .fin x _=>x.den
def hp (P:r_):Nat:=hb (px P) (pz P)
theorem cop (P:r_):Int.gcd (px P) (pz P)=1:=by
 cases P with
 | O=>rfl
 | fin x y=>exact x.reduced
theorem CG (P:r_):0<=pz P:=by
 cases P with
 | O=>exact Int.le_refl _
 | fin x y=>exact Int.natCast_nonneg _
theorem Ge (P:r_):px (neg P)=px P:=by cases P <;> rfl
theorem Gf (P:r_):pz (neg P)=pz P:=by cases P <;> rfl
theorem iq {x z:Int} (h:Int.gcd x z=1):hh x z≠0:=by
 unfold hh;intro h0
 have h1:x=0:=ω
 have h2:z=0:=ω
 subst h1 h2;cases h
theorem GD (P:r_):1<=hp P:=qT (iq (cop P))
def rx:r_->Rat
 | O=>1
 | .fin x _=>x
def rz:r_->Rat
 | O=>0
 | .fin _ _=>1
def rs:r_->Rat
 | O=>1
 | .fin x _=>((x.den:Int):Rat)
theorem H5 (P:r_):((px P:Int):Rat)=rs P*rx P:=by
 cases P with
 | O=>unfold px rs rx;rw [Rat.mul_one];rfl
 | fin x y=>unfold px rs rx;rw [←rU,Rat.mul_comm]
theorem H7 (P:r_):((pz P:Int):Rat)=rs P*rz P:=by
 cases P with
 | O=>unfold pz rs rz;rw [Rat.mul_zero];rfl
 | fin x y=>unfold pz rs rz;rw [Rat.mul_one]
def q0 (x1 z1 x2 z2:Rat):Rat:=(x1*z2 - x2*z1)*(x1*z2 - x2*z1)
def q1 (a b x1 z1 x2 z2:Rat):Rat:=2*((x1*z2+x2*z1)*(a*z1*z2+x1*x2)+2*b*z1*z1*z2*z2)
def q2 (a b x1 z1 x2 z2:Rat):Rat:=(x1*x2 - a*z1*z2)*(x1*x2 - a*z1*z2) - 4*b*z1*z2*(x1*z2+x2*z1)
def Pr (q0 q1 q2 t0 t1 t2:Rat):Prop:=q0*t1=q1*t0/\q0*t2=q2*t0/\q1*t2=q2*t1
theorem D6 {a b x1 y1 x2 y2:Rat} (h1:y1*y1=x1*x1*x1+a*x1+b) (h2:y2*y2=x2*x2*x2+a*x2+b) :
  ((y1 - y2)*(y1 - y2) - (x1+x2)*(x1 - x2)*(x1 - x2))*((y1+y2)*(y1+y2) - (x1+x2)*(x1 - x2)*(x1 - x2)) =
   (x1 - x2)*(x1 - x2)*(((x1*x2 - a*1*1)*(x1*x2 - a*1*1) - 4*b*1*1*(x1*1+x2*1))*(1*1)):=by
 have e:((y1 - y2)*(y1 - y2) - (x1+x2)*(x1 - x2)*(x1 - x2))*((y1+y2)*(y1+y2) - (x1+x2)*(x1 - x2)*(x1 - x2)) =
   (y1*y1 - y2*y2)*(y1*y1 - y2*y2) - 2*(y1*y1+y2*y2)*((x1+x2)*(x1 - x2)*(x1 - x2))+((x1+x2)*(x1 - x2)*(x1 - x2))*((x1+x2)*(x1 - x2)*(x1 - x2)):=by
  clear h1 h2
  grind
 rw [e,h1,h2];clear e h1 h2
 grind
theorem Dz {a b:Rat} {P Q:r_} (h1:On a b P) (h2:On a b Q) :
  Pr (q0 (rx P) (rz P) (rx Q) (rz Q)) (q1 a b (rx P) (rz P) (rx Q) (rz Q)) (q2 a b (rx P) (rz P) (rx Q) (rz Q))
   (rz (add a P Q)*rz (add a P (neg Q))) (rx (add a P Q)*rz (add a P (neg Q))+rx (add a P (neg Q))*rz (add a P Q)) (rx (add a P Q)*rx (add a P (neg Q))):=by
 cases P with
 | O=>
  show Pr (q0 1 0 _ _) (q1 a b 1 0 _ _) (q2 a b 1 0 _ _) (rz Q*rz (neg Q)) (rx Q*rz (neg Q)+rx (neg Q)*rz Q) (rx Q*rx (neg Q))
  have e1:rx (neg Q)=rx Q:=by cases Q <;> rfl
  have e2:rz (neg Q)=rz Q:=by cases Q <;> rfl
  rw [e1,e2];unfold Pr q0 q1 q2;refine ⟨?_,?_,?_⟩ <;> grind
 | fin x1 y1=>
 cases Q with
 | O=>
  show Pr (q0 x1 1 1 0) (q1 a b x1 1 1 0) (q2 a b x1 1 1 0) (1*1) (x1*1+x1*1) (x1*x1)
  unfold Pr q0 q1 q2;refine ⟨?_,?_,?_⟩ <;> grind
 | fin x2 y2=>
 show Pr (q0 x1 1 x2 1) (q1 a b x1 1 x2 1) (q2 a b x1 1 x2 1) _ _ _
 unfold On at h1 h2
 by_cases hx:x1=x2
 ·subst hx
  have h3:(y1 - y2)*(y1+y2)=0:=φ
  have key:∀ y:Rat,y*y=x1*x1*x1+a*x1+b->add a (.fin x1 y) (.fin x1 y)=O/\y=0∨∃ u v,add a (.fin x1 y) (.fin x1 y)=.fin u v/\q1 a b x1 1 x1 1*u=q2 a b x1 1 x1 1:=fun y hy=>by
   by_cases h0:y=0
   ·left
    refine ⟨cV ⟨rfl,φ⟩,h0⟩
   right
   have hv:¬ (x1=x1/\y=-y):=fun h=>h0 φ
   have hs:=gN (a:=a) (b:=b) (x1:=x1) (y1:=y) (x2:=x1) (y2:=y) hy hy hv;have e:add a (.fin x1 y) (.fin x1 y)=thd x1 y x1 (lam a x1 y x1 y):=if_neg hv;rw [e];refine ⟨_,_,rfl,?_⟩;obtain ⟨-,e2⟩:=hs;generalize lam a x1 y x1 y=l at *;unfold q1 q2
   grind
  have hq0:q0 x1 1 x1 1=0:=by unfold q0;grind
  rw [hq0]
  rcases Rat.mul_eq_zero.1 h3 with h4 | h4
  ·obtain rfl:y1=y2:=φ
   have ev:add a (.fin x1 y1) (neg (.fin x1 y1))=O:=cV ⟨rfl,φ⟩;rw [ev]
   rcases key y1 h1 with ⟨e,rfl⟩ | ⟨u,v,e,hu⟩
   ·rw [e]
    unfold Pr rx rz q1;refine ⟨?_,?_,?_⟩ <;> grind
   rw [e];unfold Pr rx rz;refine ⟨?_,?_,?_⟩ <;> grind
  obtain rfl:y2=-y1:=φ
  have ev:add a (.fin x1 y1) (.fin x1 (-y1))=O:=cV ⟨rfl,φ⟩
  have en:neg (.fin x1 (-y1))=.fin x1 y1:=by
   show r_.fin x1 (- -y1)=_
   rw [Rat.neg_neg]
  rw [ev,en]
  rcases key y1 h1 with ⟨e,rfl⟩ | ⟨u,v,e,hu⟩
  ·rw [e]
   unfold Pr rx rz q1;refine ⟨?_,?_,?_⟩ <;> grind
  rw [e];unfold Pr rx rz;refine ⟨?_,?_,?_⟩ <;> grind
 have hd:x1 - x2≠0:=φ
 have e1:add a (.fin x1 y1) (.fin x2 y2)=thd x1 y1 x2 ((y1 - y2) / (x1 - x2)):=by
  show (if x1=x2/\y1=-y2 then O else thd x1 y1 x2 (lam a x1 y1 x2 y2))=_
  rw [if_neg fun h=>hx h.1];unfold lam;rw [if_neg hx]
 have e2:add a (.fin x1 y1) (neg (.fin x2 y2))=thd x1 y1 x2 ((y1+y2) / (x1 - x2)):=by
  show (if x1=x2/\y1=- -y2 then O else thd x1 y1 x2 (lam a x1 y1 x2 (-y2)))=_
  rw [if_neg fun h=>hx h.1];unfold lam;rw [if_neg hx]
  congr 2
  grind
 rw [e1,e2];have g1:=Rat.div_mul_cancel (a:=y1 - y2) hd;have g2:=Rat.div_mul_cancel (a:=y1+y2) hd;generalize (y1+y2) / (x1 - x2)=m,(y1 - y2) / (x1 - x2)=l at *
 show Pr _ _ _ (1*1) ((l*l - x1 - x2)*1+(m*m - x1 - x2)*1) ((l*l - x1 - x2)*(m*m - x1 - x2))
 have k1:q0 x1 1 x2 1*((l*l - x1 - x2)*1+(m*m - x1 - x2)*1)=q1 a b x1 1 x2 1*(1*1):=by
  unfold q0 q1
  grind
 have k2:q0 x1 1 x2 1*((l*l - x1 - x2)*(m*m - x1 - x2))=q2 a b x1 1 x2 1*(1*1):=by
  have:(x1 - x2)*(x1 - x2)*(q0 x1 1 x2 1*((l*l - x1 - x2)*(m*m - x1 - x2)))=(x1 - x2)*(x1 - x2)*(q2 a b x1 1 x2 1*(1*1)):=by
   unfold q0 q2
   have f1:(x1 - x2)*(x1 - x2)*(l*l - x1 - x2)=(y1 - y2)*(y1 - y2) - (x1+x2)*(x1 - x2)*(x1 - x2):=φ
   have f2:(x1 - x2)*(x1 - x2)*(m*m - x1 - x2)=(y1+y2)*(y1+y2) - (x1+x2)*(x1 - x2)*(x1 - x2):=φ
   generalize m*m - x1 - x2=v,l*l - x1 - x2=u at *
   have f3:(x1 - x2)*(x1 - x2)*((x1*1 - x2*1)*(x1*1 - x2*1)*(u*v))=((x1 - x2)*(x1 - x2)*u)*((x1 - x2)*(x1 - x2)*v):=φ
   rw [f3,f1,f2];exact D6 h1 h2
  grind
 refine ⟨k1,k2,?_⟩
 have:q0 x1 1 x2 1≠0:=by
  unfold q0;intro h
  rcases Rat.mul_eq_zero.1 h with h | h <;> grind
 generalize m*m - x1 - x2=v,l*l - x1 - x2=u,q2 a b x1 1 x2 1=c2,q1 a b x1 1 x2 1=c1,q0 x1 1 x2 1=c0 at *
 have k3:c0*(c1*(u*v))=c0*(c2*(u*1+v*1)):=φ
 grind
end r_
end M
namespace M
theorem GC {u1 w1 u2 w2 t:Int} (h0:Ab (w1*w2) t) (h1:Ab (u1*w2+u2*w1) t) (h2:Ab (u1*u2) t):((hh u1 w1*hh u2 w2:Nat):Int)<=2*t:=by
 have ht:=h0.nn
 have hab:∀ x y:Int,((x.natAbs*y.natAbs:Nat):Int)=((x*y).natAbs:Nat):=fun x y=>by rw [Int.natAbs_mul]
 have big:∀ x y:Int,2*t<x->t<y->t*t<x*y:=fun x y hx hy=>by
  have h1:(2*t+1)*(t+1)<=x*y:=Int.mul_le_mul ω ω ω ω
  have h2:(2*t+1)*(t+1)=2*(t*t)+3*t+1:=φ
  have h3:=Int.mul_nonneg ht ht;omega
 have mix:∀ u1 w1 u2 w2:Int,Ab (w1*w2) t->Ab (u1*w2+u2*w1) t->Ab (u1*u2) t->((u1*w2).natAbs:Int)<=2*t:=by
  intro u1 w1 u2 w2 h0 h1 h2
  by_cases hc:((u1*w2).natAbs:Int)<=2*t
  ·exact hc
  exfalso
  have e:(u1*w2)*(u2*w1)=(w1*w2)*(u1*u2):=φ
  have e2:=(h0.mul h2)
  rw [←e] at e2;unfold Ab at h1 e2;generalize u2*w1=q,u1*w2=p at *
  rcases Int.le_total 0 p with hp | hp
  ·have a1:2*t<p:=ω
   have a2:q<0:=ω
   have a3:t < -q:=ω
   have:t*t<p*(-q):=big _ _ a1 a3
   have e4:p*(-q)=-(p*q):=φ
   omega
  have a1:2*t < -p:=ω
  have a3:t<q:=ω
  have:t*t<(-p)*q:=big _ _ a1 a3
  have e4:(-p)*q=-(p*q):=φ
  omega
 have m1:=mix u1 w1 u2 w2 h0 h1 h2;have m2:=mix u2 w2 u1 w1 (by rw [Int.mul_comm];exact h0) (by rw [Int.add_comm];exact h1) (by rw [Int.mul_comm];exact h2);unfold Ab at h0 h2
 have c1:hh u1 w1=u1.natAbs∨hh u1 w1=w1.natAbs:=by unfold hh;omega
 have c2:hh u2 w2=u2.natAbs∨hh u2 w2=w2.natAbs:=by unfold hh;omega
 rcases c1 with c1 | c1 <;> rcases c2 with c2 | c2 <;> rw [c1,c2,hab]
 ·omega
 ·exact m1
 ·rw [Int.mul_comm];exact m2
 omega
theorem yF {u1 w1 u2 w2:Int} (h1:Int.gcd u1 w1=1) (h2:Int.gcd u2 w2=1) {g:Nat} (d0:(g:Int) ∣ w1*w2) (d1:(g:Int) ∣ u1*w2+u2*w1) (d2:(g:Int) ∣ u1*u2):g=1:=by
 have cop:∀ (k:Nat) (x y:Int),Int.gcd x y=1->(k:Int) ∣ x->(k:Int) ∣ y->k=1:=fun k x y h hx hy=>by
  have:=Int.dvd_gcd hx hy;rw [h] at this;exact Nat.dvd_one.1 this
 have gd:∀ (x:Int),(Nat.gcd g x.natAbs=1)->∀ y:Int,(g:Int) ∣ x*y->(g:Int) ∣ y:=fun x hx y hd=>by
  have:g ∣ x.natAbs*y.natAbs:=by
   rw [←Int.natAbs_mul];exact Int.ofNat_dvd_left.1 hd
  exact Int.ofNat_dvd_left.2 (Nat.Coprime.dvd_of_dvd_mul_left hx this)
 have sub:∀ x:Int,((Nat.gcd g x.natAbs:Nat):Int) ∣ g/\((Nat.gcd g x.natAbs:Nat):Int) ∣ x:=fun x=>⟨Int.natCast_dvd_natCast.2 (Nat.gcd_dvd_left _ _),Int.ofNat_dvd_left.2 (Nat.gcd_dvd_right _ _)⟩
 have k1:Nat.gcd g w1.natAbs=1:=by
  obtain ⟨a1,a2⟩:=sub w1;generalize hk:Nat.gcd g w1.natAbs=k at *
  have cu:Nat.gcd k u1.natAbs=1:=by
   refine cop _ u1 w1 h1 (Int.ofNat_dvd_left.2 (Nat.gcd_dvd_right _ _)) (Int.dvd_trans (Int.natCast_dvd_natCast.2 (Nat.gcd_dvd_left _ _)) a2)
  have gk:∀ y:Int,(k:Int) ∣ u1*y->(k:Int) ∣ y:=fun y hd=>by
   have:k ∣ u1.natAbs*y.natAbs:=by
    rw [←Int.natAbs_mul];exact Int.ofNat_dvd_left.1 hd
   exact Int.ofNat_dvd_left.2 (Nat.Coprime.dvd_of_dvd_mul_left cu this)
  have b2:=gk u2 (Int.dvd_trans a1 d2)
  have b1:(k:Int) ∣ u1*w2:=by
   have h:=Int.dvd_sub (Int.dvd_trans a1 d1) (Int.dvd_trans a2 (Int.dvd_mul_left u2 w1))
   rwa [Int.add_sub_cancel] at h
  exact cop k u2 w2 h2 b2 (gk w2 b1)
 have b:=gd w1 k1 w2 d0;have k2:Nat.gcd g u2.natAbs=1:=cop _ u2 w2 h2 (sub u2).2 (Int.dvd_trans (sub u2).1 b);have c:=gd u2 k2 u1 (by rw [Int.mul_comm];exact d2)
 have e:(g:Int) ∣ u2*w1:=by
  have h:=Int.dvd_sub d1 (Int.dvd_trans b (Int.dvd_mul_left u1 w2))
  rwa [show u1*w2+u2*w1 - u1*w2=u2*w1 by omega] at h
 exact cop g u1 w1 h1 c (gd u2 k2 w1 e)
theorem D7 {q0 q1 q2 t0 t1 t2 m:Int} (hq:¬ (q0=0/\q1=0/\q2=0)) (ht:∀ g:Nat,(g:Int) ∣ t0->(g:Int) ∣ t1->(g:Int) ∣ t2->g=1)
  (e1:q0*t1=q1*t0) (e2:q0*t2=q2*t0) (e3:q1*t2=q2*t1) (a0:Ab q0 m) (a1:Ab q1 m) (a2:Ab q2 m):Ab t0 m/\Ab t1 m/\Ab t2 m:=by
 have key:∀ q:Int,∀ t:Int,t ∣ q*t0->t ∣ q*t1->t ∣ q*t2->t ∣ q:=fun q t d0 d1 d2=>by
  have g1:t ∣ ((Int.gcd (q*t0) (Int.gcd (q*t1) (q*t2)):Nat):Int):=Int.dvd_coe_gcd d0 (Int.dvd_coe_gcd d1 d2)
  have e:Int.gcd (q*t0) (Int.gcd (q*t1) (q*t2))=q.natAbs:=by
   rw [Int.gcd_mul_left]
   have:((q.natAbs*Int.gcd t1 t2:Nat):Int)=(q.natAbs:Int)*(Int.gcd t1 t2:Nat):=by push_cast;rfl
   rw [this]
   have e3:Int.gcd (q*t0) ((q.natAbs:Int)*((Int.gcd t1 t2:Nat):Int))=Int.gcd ((q.natAbs:Int)*t0) ((q.natAbs:Int)*((Int.gcd t1 t2:Nat):Int)):=by
    unfold Int.gcd;simp [Int.natAbs_mul]
   rw [e3,Int.gcd_mul_left]
   have h1:Int.gcd t0 ((Int.gcd t1 t2:Nat):Int)=1:=by
    refine ht _ (Int.gcd_dvd_left ..) ?_ ?_
    ·exact Int.dvd_trans (Int.gcd_dvd_right ..) (Int.gcd_dvd_left ..)
    exact Int.dvd_trans (Int.gcd_dvd_right ..) (Int.gcd_dvd_right ..)
   rw [h1];simp
  rw [e] at g1;exact Int.dvd_natAbs.1 g1
 have fin:∀ l:Int,q0=l*t0->q1=l*t1->q2=l*t2->Ab t0 m/\Ab t1 m/\Ab t2 m:=fun l f0 f1 f2=>by
  have hl:l≠0:=fun h=>hq ⟨by rw [f0,h];simp,by rw [f1,h];simp,by rw [f2,h];simp⟩
  have sm:∀ t:Int,Ab (l*t) m->Ab t m:=fun t h=>by
   have h1:(l*t).natAbs=l.natAbs*t.natAbs:=Int.natAbs_mul _ _;have h2:1*t.natAbs<=l.natAbs*t.natAbs:=Nat.mul_le_mul_right _ ω;unfold Ab at *;omega
  exact ⟨sm _ (f0 ▸ a0),sm _ (f1 ▸ a1),sm _ (f2 ▸ a2)⟩
 by_cases h0:t0=0
 ·subst h0
  by_cases h1:t1=0
  ·subst h1
   have h2:t2≠0:=fun h=>by
    subst h;have:=ht 2 σ σ σ;cases this
   have z0:q0=0:=by
    have:q0*t2=0:=by rw [e2];simp
    rcases Int.mul_eq_zero.1 this with h | h
    ·exact h
    exact absurd h h2
   have z1:q1=0:=by
    have:q1*t2=0:=by rw [e3];simp
    rcases Int.mul_eq_zero.1 this with h | h
    ·exact h
    exact absurd h h2
   obtain ⟨l,hl⟩:=key q2 t2 σ σ (Int.dvd_mul_left _ _);exact fin l (by rw [z0];simp) (by rw [z1];simp) (by rw [hl,Int.mul_comm])
  have z0:q0=0:=by
   have:q0*t1=0:=by rw [e1];simp
   rcases Int.mul_eq_zero.1 this with h | h
   ·exact h
   exact absurd h h1
  obtain ⟨l,hl⟩:=key q1 t1 σ (Int.dvd_mul_left _ _) (by rw [e3];exact Int.dvd_mul_left _ _);refine fin l (by rw [z0];simp) (by rw [hl,Int.mul_comm]) ?_
  have:t1*q2=t1*(l*t2):=by rw [Int.mul_comm,←e3,hl];grind
  exact Int.eq_of_mul_eq_mul_left h1 this
 obtain ⟨l,hl⟩:=key q0 t0 (Int.dvd_mul_left _ _) (by rw [e1];exact Int.dvd_mul_left _ _) (by rw [e2];exact Int.dvd_mul_left _ _);refine fin l (by rw [hl,Int.mul_comm]) ?_ ?_
 ·have:t0*q1=t0*(l*t1):=by rw [Int.mul_comm,←e1,hl];grind
  exact Int.eq_of_mul_eq_mul_left h0 this
 have:t0*q2=t0*(l*t2):=by rw [Int.mul_comm,←e2,hl];grind
 exact Int.eq_of_mul_eq_mul_left h0 this
end M
namespace M
namespace r_
def i0 (x1 z1 x2 z2:Int):Int:=(x1*z2 - x2*z1)*(x1*z2 - x2*z1)
def i1 (a b x1 z1 x2 z2:Int):Int:=2*((x1*z2+x2*z1)*(a*z1*z2+x1*x2)+2*b*z1*z1*z2*z2)
def i2 (a b x1 z1 x2 z2:Int):Int:=(x1*x2 - a*z1*z2)*(x1*x2 - a*z1*z2) - 4*b*z1*z2*(x1*z2+x2*z1)
def cT (a b:Int):Int:=4*(1+a.natAbs+b.natAbs)+(1+a.natAbs)*(1+a.natAbs)+8*b.natAbs
theorem YL {a b x1 z1 x2 z2 h k:Int} (hx1:Ab x1 h) (hz1:Ab z1 h) (hx2:Ab x2 k) (hz2:Ab z2 k) :
  Ab (i0 x1 z1 x2 z2) (cT a b*(h*h*k*k))/\Ab (i1 a b x1 z1 x2 z2) (cT a b*(h*h*k*k))/\Ab (i2 a b x1 z1 x2 z2) (cT a b*(h*h*k*k)):=by
 have ha:=Ab.of a;have hb:=Ab.of b;have hp:0<=h*h*k*k:=Int.mul_nonneg (Int.mul_nonneg (Int.mul_nonneg hx1.nn hx1.nn) hx2.nn) hx2.nn;have hA:(0:Int)<=(a.natAbs:Int)*a.natAbs:=Int.mul_nonneg ω ω
 have le:∀ c:Int,c<=cT a b->c*(h*h*k*k)<=cT a b*(h*h*k*k):=fun c hc=>Int.mul_le_mul_of_nonneg_right hc hp
 have eT:cT a b=5+6*a.natAbs+12*b.natAbs+(a.natAbs:Int)*a.natAbs:=by unfold cT;grind
 refine ⟨?_,?_,?_⟩
 ·have t:=(hx1.mul hz2).sub (hx2.mul hz1)
  refine (t.mul t).le (Int.le_trans (Int.le_of_eq ?_) (le 4 ω))
  grind
 ·have t1:=(hx1.mul hz2).add (hx2.mul hz1)
  have t2:=((ha.mul hz1).mul hz2).add (hx1.mul hx2);have t3:=(((((Ab.num (n:=2) δ).mul hb).mul hz1).mul hz1).mul hz2).mul hz2;refine ((Ab.num (n:=2) δ).mul ((t1.mul t2).add t3)).le (Int.le_trans (Int.le_of_eq ?_) (le (4*(1+a.natAbs+b.natAbs)) ω))
  grind
 have t1:=(hx1.mul hx2).sub ((ha.mul hz1).mul hz2);have t2:=(hx1.mul hz2).add (hx2.mul hz1);have t3:=((((Ab.num (n:=4) δ).mul hb).mul hz1).mul hz2).mul t2;refine ((t1.mul t1).sub t3).le (Int.le_trans (Int.le_of_eq ?_) (le ((1+a.natAbs)*(1+a.natAbs)+8*b.natAbs) (by rw [eT];grind)))
 grind
theorem Gm {P Q:r_} (h:px P*pz Q=px Q*pz P):px P=px Q/\pz P=pz Q:=by
 cases P with
 | O=>
  cases Q with
  | O=>exact ⟨rfl,rfl⟩
  | fin x y=>
  have h:(1:Int)*(x.den:Int)=x.num*0:=h;have:=x.den_nz;omega
 | fin x1 y1=>
 cases Q with
 | O=>
  have h:x1.num*0=1*(x1.den:Int):=h;have:=x1.den_nz;omega
 | fin x2 y2=>
 have:x1=x2:=Rat.eq_iff_mul_eq_mul.2 h;subst this;exact ⟨rfl,rfl⟩
theorem Hn {a b:Int} (hd:aO a b≠0) (P Q:r_):¬ (i0 (px P) (pz P) (px Q) (pz Q)=0/\i1 a b (px P) (pz P) (px Q) (pz Q)=0/\i2 a b (px P) (pz P) (px Q) (pz Q)=0):=by
 rintro ⟨h0,h1,h2⟩
 have hx:px P*pz Q=px Q*pz P:=by
  unfold i0 at h0
  rcases Int.mul_eq_zero.1 h0 with h | h <;> omega
 obtain ⟨e1,e2⟩:=Gm hx;rw [←e1,←e2] at h1 h2
 have eG:ae a b (px P) (pz P)=0:=by rw [←h1];unfold ae i1;grind
 have eF:ai a b (px P) (pz P)=0:=by rw [←h2];unfold ai i2;grind
 have hp:=iq (cop P);have:=AP (a:=a) (b:=b) hp;rw [eG,eF] at this;have e0:hh 0 0=0:=rfl;rw [e0] at this;have hpos:(0:Int)<(hh (px P) (pz P):Int)*hh (px P) (pz P)*hh (px P) (pz P)*hh (px P) (pz P):=Int.mul_pos (Int.mul_pos (Int.mul_pos ω ω) ω) ω
 have hD:(0:Int)<4*((aO a b).natAbs:Int):=ω
 have:=Int.mul_pos hD hpos;simp at *
 omega
theorem xH {a b:Int} {P Q:r_} (h1:On a b P) (h2:On a b Q) (S D:r_) (hS:add a P Q=S) (hD:add a P (neg Q)=D) :
  (i0 (px P) (pz P) (px Q) (pz Q)*(px S*pz D+px D*pz S)=i1 a b (px P) (pz P) (px Q) (pz Q)*(pz S*pz D))/\
  (i0 (px P) (pz P) (px Q) (pz Q)*(px S*px D)=i2 a b (px P) (pz P) (px Q) (pz Q)*(pz S*pz D))/\
  (i1 a b (px P) (pz P) (px Q) (pz Q)*(px S*px D)=i2 a b (px P) (pz P) (px Q) (pz Q)*(px S*pz D+px D*pz S)):=by
 obtain ⟨e1,e2,e3⟩:=Dz h1 h2;rw [hS,hD] at e1 e2 e3;unfold q0 q1 at e1;unfold q0 q2 at e2;unfold q1 q2 at e3;unfold i0 i1 i2;refine ⟨?_,?_,?_⟩ <;> apply Rat.intCast_inj.1 <;> push_cast <;> simp only [H5,H7]
 all_goals
  clear h1 h2 hS hD;generalize rs D=s4,rz D=z4,rx D=x4,rs S=s3,rz S=z3,rx S=x3,rs Q=s2,rz Q=z2,rx Q=x2,rs P=s1,rz P=z1,rx P=x1 at *;generalize (a:Rat)=a at *;generalize (b:Rat)=b at *
 ·clear e2 e3
  have:=congrArg (fun t=>s1*s1*s2*s2*s3*s4*t) e1
  grind
 ·clear e1 e3
  have:=congrArg (fun t=>s1*s1*s2*s2*s3*s4*t) e2
  grind
 clear e1 e2;have:=congrArg (fun t=>s1*s1*s2*s2*s3*s4*t) e3
 grind
def cU (a b:Int):Nat:=Wh.bl (2*cT a b).toNat+2
theorem Bl {a b:Int} (hd:aO a b≠0) {P Q:r_} (h1:On a b P) (h2:On a b Q):hp (add a P Q)+hp (add a P (neg Q))<=2*hp P+2*hp Q+cU a b:=by
 have hp:=xH h1 h2 _ _ rfl rfl;generalize add (a:Rat) P Q=S at *;generalize add (a:Rat) P (neg Q)=D at *;obtain ⟨e1,e2,e3⟩:=hp;obtain ⟨x1,z1⟩:=tD (px P) (pz P);obtain ⟨x2,z2⟩:=tD (px Q) (pz Q);obtain ⟨a0,a1,a2⟩:=YL (a:=a) (b:=b) x1 z1 x2 z2;obtain ⟨b0,b1,b2⟩:=D7 (Hn hd P Q) (fun g=>yF (cop S) (cop D)) e1 e2 e3 a0 a1 a2;have hm:=GC b0 b1 b2;have n1:=iq (cop P);have n2:=iq (cop Q);have n3:=iq (cop S);have n4:=iq (cop D)
 have hcT:0<=cT a b:=by
  have hA:(0:Int)<=(1+(a.natAbs:Int))*(1+a.natAbs):=Int.mul_nonneg ω ω;unfold cT;omega
 unfold r_.hp hb cU;obtain ⟨c,hc⟩:=Int.eq_ofNat_of_zero_le hcT;rw [hc] at hm ⊢;clear e1 e2 e3 x1 z1 x2 z2 a0 a1 a2 b0 b1 b2 hc hcT;generalize hh (px D) (pz D)=d,hh (px S) (pz S)=s,hh (px Q) (pz Q)=q,hh (px P) (pz P)=p at *
 have e:(2*(c:Int)).toNat=2*c:=ω
 rw [e]
 have hm:s*d<=2*(c*(p*p*q*q)):=by exact_mod_cast hm
 have p1:=nM p;have q1:=nM q;have s1:=AA n3;have d1:=AA n4;have s2:=qT n3;have d2:=qT n4;have c1:=nM (2*c);generalize Wh.bl (2*c)=C,Wh.bl d=D,Wh.bl s=S,Wh.bl q=Q,Wh.bl p=P at *
 have:2 ^ (S - 1+(D - 1))<2 ^ (C+(P+P+Q+Q)):=by
  rw [Nat.pow_add,Nat.pow_add 2 C,Nat.pow_add,Nat.pow_add,Nat.pow_add];have h1:2 ^ (S - 1)*2 ^ (D - 1)<=s*d:=Nat.mul_le_mul s1 d1;have h2:p*p*q*q<2 ^ P*2 ^ P*2 ^ Q*2 ^ Q:=Nat.mul_lt_mul'' (Nat.mul_lt_mul'' (Nat.mul_lt_mul'' p1 p1) q1) q1;have h3:=Nat.mul_lt_mul'' c1 h2
  have h4:2*(c*(p*p*q*q))=2*c*(p*p*q*q):=φ
  omega
 have:=(Nat.pow_lt_pow_iff_right δ).1 this;omega
end r_
end M
namespace M
theorem Ah {a b x z d:Int} (hc:Int.gcd x z=1) (h1:d ∣ ai a b x z) (h2:d ∣ ae a b x z):d ∣ 4*aO a b:=by
 have e1:d ∣ 4*aO a b*(z*z*z*z*z*z*z):=by
  rw [←FK];exact Int.dvd_sub (Int.dvd_trans h1 (Int.dvd_mul_left _ _)) (Int.dvd_trans h2 (Int.dvd_mul_left _ _))
 have e2:d ∣ 4*aO a b*(x*x*x*x*x*x*x):=by
  rw [←FJ];exact Int.dvd_add (Int.dvd_trans h1 (Int.dvd_mul_left _ _)) (Int.dvd_trans h2 (Int.dvd_mul_left _ _))
 have e3:=Int.dvd_coe_gcd e2 e1;rw [Int.gcd_mul_left] at e3
 have e4:Int.gcd (x*x*x*x*x*x*x) (z*z*z*z*z*z*z)=1:=by
  unfold Int.gcd at *
  have:∀ u:Int,(u*u*u*u*u*u*u).natAbs=u.natAbs ^ 7:=fun u=>by simp [Int.natAbs_mul];grind
  rw [this,this];exact Nat.Coprime.pow 7 7 hc
 rw [e4,Nat.mul_one] at e3;exact Int.dvd_natAbs.1 e3
namespace r_
theorem dA {a b:Int} (hd:aO a b≠0):4*(a:Rat)*a*a+27*(b:Rat)*b≠0:=by
 intro h
 apply hd
 unfold aO
 exact_mod_cast h
theorem sd {a b:Int} (hd:aO a b≠0) {P:r_} (h:On a b P):∃ d:Int,d≠0/\d ∣ 4*aO a b/\ai a b (px P) (pz P)=d*px (add a P P)/\ae a b (px P) (pz P)=d*pz (add a P P):=by
 have hO:add (a:Rat) P (neg P)=O:=by
  rw [add_comm (dA hd) h (cM h)];exact cL _ _
 obtain ⟨-,-,e3⟩:=xH h h _ _ rfl hO
 have eG:i1 a b (px P) (pz P) (px P) (pz P)=ae a b (px P) (pz P):=by unfold ae i1;grind
 have eF:i2 a b (px P) (pz P) (px P) (pz P)=ai a b (px P) (pz P):=by unfold ai i2;grind
 have hne:=Hn hd P P
 have h0:i0 (px P) (pz P) (px P) (pz P)=0:=by unfold i0;grind
 rw [eG,eF] at e3 hne;have hO1:px O=1:=rfl;have hO2:pz O=0:=rfl;rw [hO1,hO2,Int.mul_one,Int.mul_zero,Int.zero_add,Int.one_mul] at e3;have hc:=cop (add a P P);generalize add (a:Rat) P P=S at *
 have dv:=fun d=>Ah (a:=a) (b:=b) (d:=d) (cop P)
 generalize ae a b (px P) (pz P)=G,ai a b (px P) (pz P)=F at *
 have fin:∀ d:Int,F=d*px S->G=d*pz S->∃ d:Int,d≠0/\d ∣ 4*aO a b/\F=d*px S/\G=d*pz S:=fun d f g=>
  ⟨d,fun h=>hne ⟨h0,by rw [g,h];simp,by rw [f,h];simp⟩,dv d ⟨_,f⟩ ⟨_,g⟩,f,g⟩
 have cd:∀ x y k:Int,Int.gcd x y=1->x ∣ y*k->x ∣ k:=fun x y k hxy hk=>by
  have h1:x.natAbs ∣ y.natAbs*k.natAbs:=by
   rw [←Int.natAbs_mul];exact Int.natAbs_dvd_natAbs.2 hk
  exact Int.natAbs_dvd_natAbs.1 (Nat.Coprime.dvd_of_dvd_mul_left hxy h1)
 by_cases hz:pz S=0
 ·rw [hz] at e3 hc
  have hx:px S≠0:=fun h=>by rw [h] at hc;cases hc
  have hG:G=0:=by
   rw [Int.mul_zero] at e3
   rcases Int.mul_eq_zero.1 e3 with h | h
   ·exact h
   exact absurd h hx
  obtain ⟨d,hd⟩:=cd (px S) 0 F hc (by
   have:px S ∣ 1:=by
    unfold Int.gcd at hc;simp at hc
    exact Int.natAbs_dvd_natAbs.1 (by rw [hc];exact Nat.dvd_refl 1)
   exact Int.dvd_trans this (Int.one_dvd _))
  exact fin d (by rw [hd,Int.mul_comm]) (by rw [hG,hz];simp)
 obtain ⟨d,hd⟩:=cd (pz S) (px S) G (by rw [Int.gcd_comm];exact hc) ⟨F,by rw [Int.mul_comm,e3,Int.mul_comm]⟩;refine fin d ?_ (by rw [hd,Int.mul_comm])
 have:pz S*F=pz S*(d*px S):=by rw [Int.mul_comm,←e3,hd];grind
 exact Int.eq_of_mul_eq_mul_left hz this
theorem qc {a b:Int} (hd:aO a b≠0) {P:r_} (h:On a b P):4*hp P<=hp (add a P P)+hC a b+3/\hp (add a P P)<=4*hp P+hC a b:=by
 obtain ⟨d,h1,h2,h3,h4⟩:=sd hd h
 have hle:d.natAbs<=4*(aO a b).natAbs:=by
  have:=Int.natAbs_dvd_natAbs.2 h2;rw [Int.natAbs_mul] at this;exact Nat.le_of_dvd ω this
 rcases Int.le_total 0 d with hs | hs
 ·have e:((d.natAbs:Nat):Int)=d:=ω
  exact Cr (d:=d.natAbs) (iq (cop P)) ω hle (by rw [e];exact h3) (by rw [e];exact h4)
 have e:((d.natAbs:Nat):Int)=-d:=ω
 have w:=Cr (f:=-px (add a P P)) (g:=-pz (add a P P)) (d:=d.natAbs) (iq (cop P)) ω hle (by rw [e,h3];grind) (by rw [e,h4];grind)
 have eh:hb (-px (add a P P)) (-pz (add a P P))=hp (add a P P):=by unfold hp hb hh;simp
 rw [eh] at w;exact w
def Iz (a:Rat):Nat->r_->r_
 | 0,P=>P
 | n+1,P=>add a (Iz a n P) (Iz a n P)
theorem el {a b:Rat} (hd:4*a*a*a+27*b*b≠0) {P:r_} (h:On a b P):∀ n,On a b (Iz a n P)
 | 0=>h
 | n+1=>dM hd (el hd h n) (el hd h n)
theorem C7 {a b:Rat} (hd:4*a*a*a+27*b*b≠0) {P Q R S:r_} (h1:On a b P) (h2:On a b Q) (h3:On a b R) (h4:On a b S):add a (add a P Q) (add a R S)=add a (add a P R) (add a Q S):=by
 rw [add_assoc hd h1 h2 (dM hd h3 h4),←add_assoc hd h2 h3 h4,add_comm hd h2 h3,add_assoc hd h3 h2 h4,←add_assoc hd h1 h3 (dM hd h2 h4)]
theorem qd {a b:Rat} (hd:4*a*a*a+27*b*b≠0) {P Q:r_} (h1:On a b P) (h2:On a b Q):∀ n,Iz a n (add a P Q)=add a (Iz a n P) (Iz a n Q)
 | 0=>rfl
 | n+1=>by
  show add a (Iz a n (add a P Q)) (Iz a n (add a P Q))=add a (add a _ _) (add a _ _)
  rw [qd hd h1 h2 n,C7 hd (el hd h1 n) (el hd h2 n) (el hd h1 n) (el hd h2 n)]
theorem wL {a b:Rat} (hd:4*a*a*a+27*b*b≠0) {P:r_} (h1:On a b P):∀ n,Iz a n (neg P)=neg (Iz a n P)
 | 0=>rfl
 | n+1=>by
  show add a (Iz a n (neg P)) (Iz a n (neg P))=neg (add a _ _)
  rw [wL hd h1 n,kS hd (el hd h1 n) (el hd h1 n)]
theorem Ag (a:Rat):∀ n,Iz a n O=O
 | 0=>rfl
 | n+1=>by
  show add a (Iz a n O) (Iz a n O)=O
  rw [Ag a n];rfl
def hs (a:Int) (P:r_) (n:Nat):Int:=(hp (Iz a n P):Nat)
def Cl (f g:Nat->Int):Prop:=∃ c:Int,∀ n,-c<=f n - g n/\f n - g n<=c
theorem Cl.refl (f:Nat->Int):Cl f f:=⟨0,fun n=>ω⟩
theorem Cl.symm {f g:Nat->Int} (h:Cl f g):Cl g f:=by
 obtain ⟨c,h⟩:=h;exact ⟨c,fun n=>by have:=h n;omega⟩
theorem Cl.trans {f g k:Nat->Int} (h:Cl f g) (h':Cl g k):Cl f k:=by
 obtain ⟨c,h⟩:=h;obtain ⟨d,h'⟩:=h';exact ⟨c+d,fun n=>by have:=h n;have:=h' n;omega⟩
theorem Cl.add {f g k l:Nat->Int} (h:Cl f g) (h':Cl k l):Cl (fun n=>f n+k n) (fun n=>g n+l n):=by
 obtain ⟨c,h⟩:=h;obtain ⟨d,h'⟩:=h';exact ⟨c+d,fun n=>by have:=h n;have:=h' n;show _<=f n+k n - (g n+l n)/\f n+k n - (g n+l n)<=_;omega⟩
theorem Cl.sub {f g k l:Nat->Int} (h:Cl f g) (h':Cl k l):Cl (fun n=>f n - k n) (fun n=>g n - l n):=by
 obtain ⟨c,h⟩:=h;obtain ⟨d,h'⟩:=h';exact ⟨c+d,fun n=>by have:=h n;have:=h' n;show _<=f n - k n - (g n - l n)/\f n - k n - (g n - l n)<=_;omega⟩
theorem Cl.mul {f g:Nat->Int} (k:Int) (h:Cl f g):Cl (fun n=>k*f n) (fun n=>k*g n):=by
 obtain ⟨c,h⟩:=h;refine ⟨k.natAbs*c,fun n=>?_⟩;have h1:=h n;have:=(Ab.of k).mul (show Ab (f n - g n) c from h1);rw [Int.mul_sub] at this;exact this
theorem Cl.of {f g:Nat->Int} (h:∀ n,f n=g n):Cl f g:=⟨0,fun n=>by rw [h n];omega⟩
theorem Hl (a:Int) (n:Nat):hs a O n=1:=by
 unfold hs;rw [Ag]
 decide
theorem GG (a:Int) (P:r_) (n:Nat):1<=hs a P n:=by
 have:=GD (Iz a n P);unfold hs;omega
theorem BE {a b:Int} (hd:aO a b≠0) {P:r_} (h:On a b P) (n:Nat):4*hs a P n<=hs a P (n+1)+hC a b+3/\hs a P (n+1)<=4*hs a P n+hC a b:=by
 have:=qc hd (el (dA hd) h n);unfold hs
 show 4*((hp (Iz a n P):Nat):Int)<=((hp (add a (Iz a n P) (Iz a n P)):Nat):Int)+_+3/\((hp (add a (Iz a n P) (Iz a n P)):Nat):Int)<=_
 omega
theorem par {a b:Int} (hd:aO a b≠0) {P Q:r_} (h1:On a b P) (h2:On a b Q):Cl (fun n=>hs a (add a P Q) n+hs a (add a P (neg Q)) n) (fun n=>2*hs a P n+2*hs a Q n):=by
 refine ⟨cU a b+hC a b+3,fun n=>?_⟩;have rd:=dA hd;have o1:=el rd h1 n;have o2:=el rd h2 n;have k1:=Bl hd o1 o2;have k2:=Bl hd (dM rd o1 o2) (dM rd o1 (cM o2))
 have e1:add (a:Rat) (add a (Iz a n P) (Iz a n Q)) (add a (Iz a n P) (neg (Iz a n Q)))=add a (Iz a n P) (Iz a n P):=by
  rw [C7 rd o1 o2 o1 (cM o2),add_comm rd o2 (cM o2),cL,ij]
 have e2:add (a:Rat) (add a (Iz a n P) (Iz a n Q)) (neg (add a (Iz a n P) (neg (Iz a n Q))))=add a (Iz a n Q) (Iz a n Q):=by
  rw [kS rd o1 (cM o2),neg_neg,C7 rd o1 o2 (cM o1) o2,add_comm rd o1 (cM o1),cL,HE]
 rw [e1,e2] at k2;have w1:=qc hd o1;have w2:=qc hd o2;have e3:Iz (a:Rat) n (add a P Q)=_:=qd rd h1 h2 n;have e4:Iz (a:Rat) n (add a P (neg Q))=_:=qd rd h1 (cM h2) n;rw [wL rd h2] at e4;unfold hs;simp only;rw [e3,e4];omega
end r_
end M
namespace M
namespace r_
theorem Cl.div {f g:Nat->Int} {k:Int} (hk:k≠0) (h:Cl (fun n=>k*f n) (fun n=>k*g n)):Cl f g:=by
 obtain ⟨c,h⟩:=h;refine ⟨c,fun n=>?_⟩;have h1:=h n;simp only at h1;rw [←Int.mul_sub] at h1;generalize f n - g n=x at *;have h2:(k*x).natAbs=k.natAbs*x.natAbs:=Int.natAbs_mul _ _;have h3:1*x.natAbs<=k.natAbs*x.natAbs:=Nat.mul_le_mul_right _ ω;omega
def pr (a:Int) (P Q:r_) (n:Nat):Int:=hs a (add a P Q) n - hs a P n - hs a Q n
theorem D3 {a b:Int} (hd:aO a b≠0) {P Q:r_} (h1:On a b P) (h2:On a b Q) (n:Nat):pr a P Q n=pr a Q P n:=by
 unfold pr;rw [add_comm (dA hd) h1 h2];omega
theorem D2 (a:Int) (Q:r_) (n:Nat):pr a O Q n=-1:=by
 unfold pr;rw [Hl]
 show hs a Q n - 1 - hs a Q n=-1
 omega
theorem vI {a b:Int} (hd:aO a b≠0) {P Q R:r_} (h1:On a b P) (h2:On a b Q) (h3:On a b R):Cl (pr a (add a P Q) R) (fun n=>pr a P R n+pr a Q R n):=by
 have rd:=dA hd;have q1:=par hd (dM rd h1 h2) h3;have q2:=par hd h1 (dM rd h2 (cM h3));have q3:=par hd (dM rd h1 h3) h2;have q4:=par hd h2 h3;have e1:add (a:Rat) (add a P Q) (neg R)=add a P (add a Q (neg R)):=add_assoc rd h1 h2 (cM h3)
 have e2:add (a:Rat) (add a P R) Q=add a (add a P Q) R:=by rw [add_assoc rd h1 h3 h2,add_comm rd h3 h2,add_assoc rd h1 h2 h3]
 have e3:add (a:Rat) P (neg (add a Q (neg R)))=add a (add a P R) (neg Q):=by
  rw [kS rd h2 (cM h3),neg_neg,add_comm rd (cM h2) h3,add_assoc rd h1 h3 (cM h2)]
 rw [e1] at q1;rw [e3] at q2;rw [e2] at q3;obtain ⟨c1,q1⟩:=q1;obtain ⟨c2,q2⟩:=q2;obtain ⟨c3,q3⟩:=q3;obtain ⟨c4,q4⟩:=q4;refine ⟨c1+c2+c3+2*c4,fun n=>?_⟩;have q1:=q1 n;have q2:=q2 n;have q3:=q3 n;have q4:=q4 n;unfold pr;simp only at *;omega
theorem GE {a b:Int} (hd:aO a b≠0) {P:r_} (h:On a b P):Cl (hs a (add a P P)) (fun n=>4*hs a P n):=by
 have q:=par hd h h;rw [add_comm (dA hd) h (cM h),cL] at q;obtain ⟨c,q⟩:=q;refine ⟨c+1,fun n=>?_⟩;have:=q n;simp only at this;rw [Hl] at this
 show _<=hs a (add a P P) n - 4*hs a P n/\hs a (add a P P) n - 4*hs a P n<=_
 omega
theorem D4 {a b:Int} (hd:aO a b≠0) {P:r_} (h:On a b P):Cl (pr a P P) (fun n=>2*hs a P n):=by
 obtain ⟨c,q⟩:=GE hd h;refine ⟨c,fun n=>?_⟩;have:=q n;unfold pr;simp only at *;omega
theorem GY {a b:Int} (hd:aO a b≠0) {P Q:r_} (h1:On a b P) (h2:On a b Q):Cl (pr a (neg P) Q) (fun n=>-1*pr a P Q n):=by
 have q:=vI hd h1 (cM h1) h2;rw [add_comm (dA hd) h1 (cM h1),cL] at q;obtain ⟨c,q⟩:=q;refine ⟨c+1,fun n=>?_⟩;have:=q n;simp only at this;rw [D2] at this;simp only;omega
def mul (a:Rat):Nat->r_->r_
 | 0,_=>O
 | n+1,P=>add a (mul a n P) P
def uP (a:Rat) (z:Int) (P:r_):r_:=if z<0 then mul a z.natAbs (neg P) else mul a z.natAbs P
theorem j6 {a b:Rat} (hd:4*a*a*a+27*b*b≠0) {P:r_} (h:On a b P):∀ n,On a b (mul a n P)
 | 0=>trivial
 | n+1=>dM hd (j6 hd h n) h
theorem xg {a b:Rat} (hd:4*a*a*a+27*b*b≠0) {P:r_} (h:On a b P) (z:Int):On a b (uP a z P):=by
 unfold uP
 split
 ·exact j6 hd (cM h) _
 exact j6 hd h _
theorem rM {a b:Int} (hd:aO a b≠0) {P Q:r_} (h1:On a b P) (h2:On a b Q):∀ k:Nat,Cl (pr a (mul a k P) Q) (fun n=>(k:Int)*pr a P Q n)
 | 0
   => ⟨1,fun n=>by
   show _<=pr a O Q n - _/\pr a O Q n - _<=_
   rw [D2]
   simp⟩
 | k+1=>by
  have ih:=rM hd h1 h2 k;have:=(vI hd (j6 (dA hd) h1 k) h1 h2).trans (ih.add (Cl.refl (pr a P Q)));refine this.trans (Cl.of fun n=>?_)
  push_cast
  grind
theorem D5 {a b:Int} (hd:aO a b≠0) {P Q:r_} (h1:On a b P) (h2:On a b Q) (z:Int):Cl (pr a (uP a z P) Q) (fun n=>z*pr a P Q n):=by
 unfold uP
 split
 ·refine ((rM hd (cM h1) h2 _).trans ((GY hd h1 h2).mul _)).trans (Cl.of fun n=>?_)
  have e:(z.natAbs:Int)=-z:=ω
  rw [e]
  grind
 refine (rM hd h1 h2 _).trans (Cl.of fun n=>?_)
 have e:(z.natAbs:Int)=z:=ω
 rw [e]
theorem GZ {a b:Int} (hd:aO a b≠0) {P Q:r_} (h:On a b P) (h2:On a b Q) {k:Nat} (hk:k≠0) (hm:mul a k P=O):Cl (pr a P Q) (fun _=>0):=by
 have q:=rM hd h h2 k;rw [hm] at q;refine Cl.div (k:=(k:Int)) ω (q.symm.trans ⟨1,fun n=>?_⟩);rw [D2];simp
end r_
end M
namespace Dt
def sm:Nat->(Nat->Int)->Int
 | 0,_=>0
 | n+1,f=>sm n f+f n
def sg (c:Nat):Int:=if c % 2=0 then 1 else -1
def skip (c j:Nat):Nat:=if j<c then j else j+1
def un (c j:Nat):Nat:=if j<c then j else j - 1
def mn (m:Nat->Nat->Int) (c:Nat):Nat->Nat->Int:=fun i j=>m (i+1) (skip c j)
def JO:Nat->(Nat->Nat->Int)->Int
 | 0,_=>1
 | k+1,m=>sm (k+1) fun c=>sg c*(m 0 c*JO k (mn m c))
def col (m:Nat->Nat->Int) (j:Nat) (b:Nat->Int):Nat->Nat->Int:=fun i q=>if q=j then b i else m i q
theorem xW {f:Nat->Int}:∀ n,(∀ c,c<n->f c=0)->sm n f=0
 | 0,_=>rfl
 | n+1,h=>by
  show sm n f+f n=0
  rw [xW n fun c hc=>h c ω,h n ω];rfl
theorem CZ {f g h:Nat->Int} {x y:Int}:∀ n,(∀ c,c<n->f c=x*g c+y*h c)->sm n f=x*sm n g+y*sm n h
 | 0,_=>by simp [sm]
 | n+1,e=>by
  show sm n f+f n=x*(sm n g+g n)+y*(sm n h+h n)
  rw [CZ n fun c hc=>e c ω,e n ω]
  grind
theorem vR {f:Nat->Int} {j:Nat}:∀ n,j<n->(∀ c,c<n->c≠j->f c=0)->sm n f=f j
 | n+1,hj,h=>by
  show sm n f+f n=f j
  by_cases e:j=n
  ·subst e
   rw [xW j fun c hc=>h c ω ω];omega
  rw [vR n ω fun c hc hn=>h c ω hn,h n ω (Ne.symm e)];omega
theorem Ca {f:Nat->Int} {p:Nat} (h2:f p+f (p+1)=0):∀ n,p+1<n->(∀ c,c<n->c≠p->c≠p+1->f c=0)->sm n f=0
 | n+1,hp,h=>by
  show sm n f+f n=0
  by_cases e:p+1=n
  ·subst e
   rw [vR (f:=f) (j:=p) (p+1) ω fun c hc hn=>h c ω hn ω];exact h2
  rw [Ca h2 n ω fun c hc=>h c ω,h n ω ω ω];rfl
theorem rA (m:Nat->Nat->Int) (j:Nat) (b:Nat->Int):mn (col m j b) j=mn m j:=by
 funext i q
 unfold mn col;rw [if_neg];unfold skip
 split <;> omega
theorem vB (m:Nat->Nat->Int) {j c:Nat} (b:Nat->Int) (h:c≠j):mn (col m j b) c=col (mn m c) (un c j) (fun i=>b (i+1)):=by
 funext i q
 unfold mn col
 have e:skip c q=j ↔ q=un c j:=by
  unfold skip un
  split <;> split <;> omega
 by_cases hq:q=un c j
 ·rw [if_pos (e.2 hq),if_pos hq]
 rw [if_neg (fun x=>hq (e.1 x)),if_neg hq]
theorem FP {c j k:Nat} (hc:c<k+1) (hj:j<k+1) (h:c≠j):un c j<k:=by
 unfold un
 split <;> omega
theorem kG:∀ (k:Nat) (m:Nat->Nat->Int) (j:Nat) (x y:Int) (u v:Nat->Int),j<k->JO k (col m j fun i=>x*u i+y*v i)=x*JO k (col m j u)+y*JO k (col m j v)
 | k+1,m,j,x,y,u,v,hj=>by
  refine CZ (k+1) fun c hc=>?_
  by_cases e:c=j
  ·subst e
   rw [rA,rA,rA];simp only [col,if_true]
   grind
  rw [vB m _ e,vB m _ e,vB m _ e,kG k (mn m c) (un c j) x y _ _ (FP hc hj e)];simp only [col,if_neg e]
  grind
theorem EW (p:Nat):sg (p+1)=-sg p:=by
 unfold sg
 split <;> split <;> omega
theorem mQ:∀ (k:Nat) (m:Nat->Nat->Int) (p:Nat),p+1<k->(∀ i,m i p=m i (p+1))->JO k m=0
 | k+1,m,p,hp,h=>by
  refine Ca (p:=p) ?_ (k+1) hp fun c hc h1 h2=>?_
  ·have e:mn m p=mn m (p+1):=by
    funext i q
    unfold mn skip
    by_cases h1:q<p
    ·rw [if_pos h1,if_pos ω]
    by_cases h2:q=p
    ·subst h2
     rw [if_neg ω,if_pos ω,h]
    rw [if_neg h1,if_neg ω]
   rw [e,EW,h 0]
   grind
  have e:JO k (mn m c)=0:=by
   by_cases hcp:p<c
   ·refine mQ k (mn m c) p ω fun i=>?_
    unfold mn skip;rw [if_pos hcp,if_pos ω,h]
   refine mQ k (mn m c) (p - 1) ω fun i=>?_
   unfold mn skip;rw [if_neg ω,if_neg ω,show p - 1+1=p by omega,h]
  rw [e,Int.mul_zero,Int.mul_zero]
theorem nW (m:Nat->Nat->Int) (j:Nat):col m j (fun i=>m i j)=m:=by
 funext i q
 unfold col
 split
 ·rename_i h;rw [h]
 rfl
theorem nV (m:Nat->Nat->Int) {p q:Nat} (h:p≠q) (u v:Nat->Int):col (col m p u) q v=col (col m q v) p u:=by
 funext i j
 unfold col
 by_cases h1:j=p
 ·subst h1
  rw [if_neg h,if_pos rfl,if_pos rfl]
 by_cases h2:j=q
 ·subst h2;rw [if_pos rfl,if_neg h1,if_pos rfl]
 simp only [if_neg h1,if_neg h2]
theorem AX (k:Nat) (m:Nat->Nat->Int) (p:Nat) (hp:p+1<k) (u v:Nat->Int):JO k (col (col m p u) (p+1) v)=-JO k (col (col m p v) (p+1) u):=by
 have ne:p≠p+1:=ω
 have z:∀ t:Nat->Int,JO k (col (col m p t) (p+1) t)=0:=fun t=>mQ k _ p hp fun i=>by
  simp [col]
 have L1:∀ t:Nat->Int,JO k (col (col m p fun i=>1*u i+1*v i) (p+1) t)=1*JO k (col (col m p u) (p+1) t)+1*JO k (col (col m p v) (p+1) t):=fun t=>by
  rw [nV m ne,nV m ne,nV m ne];exact kG k (col m (p+1) t) p 1 1 u v ω
 have L2:=fun t:Nat->Int=>kG k (col m p t) (p+1) 1 1 u v hp
 have h0:=z fun i=>1*u i+1*v i
 rw [L1,L2,L2,z u,z v] at h0;omega
theorem ud:∀ (d k:Nat) (m:Nat->Nat->Int) (p:Nat),p+d+1<k->(∀ i,m i p=m i (p+d+1))->JO k m=0
 | 0,k,m,p,hp,h=>mQ k m p hp h
 | d+1,k,m,p,hp,h=>by
  have e:=AX k m (p+d+1) ω (fun i=>m i (p+d+1)) (fun i=>m i (p+d+1+1));rw [nW,nW] at e;rw [e,ud d k _ p ω fun i=>?_]
  ·rfl
  unfold col;rw [if_neg ω,if_neg ω,if_neg ω,if_pos rfl];exact h i
theorem iI (k:Nat) (m:Nat->Nat->Int) (j:Nat) (hj:j<k) (v:Nat->Int) (w:Nat->Nat->Int):∀ n,JO k (col m j fun i=>sm n fun q=>v q*w i q)=sm n fun q=>v q*JO k (col m j fun i=>w i q)
 | 0=>by
  have:=kG k m j 0 0 (fun _=>0) (fun _=>0) hj;simp only [Int.zero_mul,Int.add_zero] at this;exact this
 | n+1=>by
  have:=kG k m j 1 (v n) (fun i=>sm n fun q=>v q*w i q) (fun i=>w i n) hj;simp only [Int.one_mul] at this
  show JO k (col m j fun i=>sm n (fun q=>v q*w i q)+v n*w i n)=sm n (fun q=>v q*JO k (col m j fun i=>w i q))+v n*JO k (col m j fun i=>w i n)
  rw [this,iI k m j hj v w n]
theorem Fu (k:Nat) (m:Nat->Nat->Int) (j:Nat) (hj:j<k) (v:Nat->Int):v j*JO k m=JO k (col m j fun i=>sm k fun q=>v q*m i q):=by
 rw [iI k m j hj v m k,vR (j:=j) k hj fun q hq hn=>?_]
 ·rw [nW]
 have e:JO k (col m j fun i=>m i q)=0:=by
  by_cases h:q<j
  ·exact ud (j - q - 1) k _ q ω fun i=>by
    unfold col;rw [if_neg ω,if_pos ω]
  exact ud (q - j - 1) k _ j ω fun i=>by
   unfold col;rw [if_pos rfl,if_neg ω,show j+(q - j - 1)+1=q by omega]
 rw [e,Int.mul_zero]
end Dt
end
section
open Go.RowKit open Gr M Rg Rw Wh
abbrev kr:=Bool × (Option Addr × Nat × Nat) × Bool × (Option Addr × Nat × Nat)
def kr.val (q:kr):Value:=.agg #[q.1,.slice q.2.1.1 q.2.1.2.1 q.2.1.2.2,q.2.2.1,.slice q.2.2.2.1 q.2.2.2.2.1 q.2.2.2.2.2]
def ER:Rw.Enc kr where
 t:=174
 k:=4
 cells:=fun q=>[.bool q.1,.slice q.2.1.1 q.2.1.2.1 q.2.1.2.2,.bool q.2.2.1,.slice q.2.2.2.1 q.2.2.2.2.1 q.2.2.2.2.2]
 len:=fun _=>rfl
 one:=fun x u hu=>by simp only [List.mem_cons,List.not_mem_nil,or_false] at hu;rcases hu with rfl | rfl | rfl | rfl <;> rfl
 pos:=δ
theorem Hp:(prog.info? 174).map (fun i=>(i.zero,i.size,i.bytes))=some (some (.agg #[false,.slice none 0 0,false,.slice none 0 0]),4,64):=κ
theorem Hf:Rw.Fits prog ER 168:=⟨Tryz.underlying168,by
 obtain ⟨i0,hi,hz0,hz1,hz2⟩:=info_parts Hp
 exact ⟨i0,_,hi,hz0,hz1,ω,rfl⟩⟩
theorem aF.vy {W W':World} {b1 b2:Nat} {v sl:Value} {xs:List kr} {ys:List Int} (h:aF W b1 sl ys) (hv:Rw.Own ER W b2 v xs) (hg:W.grownBy W' v.ownBlock):aF W' b1 sl ys:=by
 refine World.ownsRow.kept h hg ?_
 cases hs:sl.ownBlock with
 | none=>exact Or.inl rfl
 | some k=>exact Or.inr fun e=>jS h hv δ k e.symm hs
theorem aG.grown {W W':World} {g:Nat} {T:TypeId} {xs:Array Value} {r:Option Nat} (h:aG W g T xs) (hg:W.grownBy W' r) (hr:r≠some g):aG W' g T xs:=(hg.block g h.lt (fun e=>hr e.symm)).trans h
def Fd (W:World) (n:Nat) (o:M.Out) (v:Value) (en:Bool):Prop:=match o with
 | .inf=>en=true/\∃ A l c,v=.slice A l c
 | .bad=>en=false/\∃ A l c,v=.slice A l c/\l<=n
 | .val x z=>en=false/\Wh.sz x 1000/\Wh.sz z 1000/\∃ (g cap:Nat) (s:Bool) (av:Option Addr) (lv cv:Nat) (r:Bool) (bv:Option Addr) (mv dv:Nat),v=.slice (some ⟨g,0,none⟩) (n+1) cap/\
   W.cell? ⟨g,n*4,none⟩=some (.bool s)/\W.cell? ⟨g,n*4+1,none⟩=some (.slice av lv cv)/\W.cell? ⟨g,n*4+2,none⟩=some (.bool r)/\W.cell? ⟨g,n*4+3,none⟩=some (.slice bv mv dv)/\
   Hid (s=decide (x<0))/\Hid (r=decide (z<0))/\aF W 0 (.slice av lv cv) (Wh.a_ x.natAbs)/\aF W 0 (.slice bv mv dv) (Wh.a_ z.natAbs)
theorem ua (a b X Y E:Int) (n:Nat) (w:World) (hg:M.good a b=true) (hX1:-10000<=X) (hX2:X<=10000) (hE1:0<=E) (hE2:E<=20) (hn:n<=5) :
  Calls prog 161 #[.agg #[a,b],.agg #[X,Y,E],.int .i64 (n:Int)] w fun e w'=>∃ v,∃ en:Bool,e=.returned (.tuple #[v,en])/\Fd w' n (aX a b X E n) v en/\Below w w w':=by
 have C:=(aG.new w #[a,b] 25).alloc (.cells #[X,Y,E] 40)
 have Q:=(aG.new (w.alloc (.cells #[a,b] 25)) #[X,Y,E] 40)
 rw [IV] at Q;have B:=((IX w w).alloc (IY _) (.cells #[a,b] 25)).alloc (by rw [IV];omega) (.cells #[X,Y,E] 40)
 have Lg:w.heap.size+2<=((w.alloc (.cells #[a,b] 25)).alloc (.cells #[X,Y,E] 40)).heap.size:=by rw [IV,IV];omega
 generalize hw3:(w.alloc (.cells #[a,b] 25)).alloc (.cells #[X,Y,E] 40)=wc at *;have ⟨q0,q1,q2⟩:=Q.aM;have f_:=C.box.c0;have i_:=C.box.c1
 by_cases h0:E=0
 ·subst h0
  have hz0:=IU (show aX a b X 0 n=.inf from rfl);go_enter func161,ntmps161
  go_wp2;exact bodyPost_ret (v:=.tuple #[.slice none 0 0,true]) (by simp [results,results161,go_sem, *]) rfl (⟨_,_,rfl,(by rw [hz0.out];exact ⟨rfl,_,_,_,rfl⟩),B⟩)
 have hE:1<=E:=ω
 have R_:1<=E*E/\E*E<=400:=⟨by have:=Int.mul_le_mul hE hE ω ω;omega,by have:=Int.mul_le_mul hE2 hE2 ω ω;omega⟩
 have hE0:(E == 0)=false:=by rw [beq_eq_false_iff_ne];exact h0
 have hout:=IU (show aX a b X E n=M.run a b n (.val X (E*E)) from if_neg h0);clear h0;obtain ⟨e1,e2⟩:=R_
 have P1:=fun W=>Gx X (E*E) W ω ω ω ω
 have zX:Wh.sz X 1000:=aL (be ω ω) ω;have zE:Wh.sz (E*E) 1000:=aL (be ω ω) ω;have zX:=IU zX;have zE:=IU zE
 have hb2:-10000<=b/\b<=10000:=⟨(aW (aY hg)).2.2.1,(aW (aY hg)).2.2.2⟩
 have ha2:-1000<=a/\a<=1000:=⟨(aW (aY hg)).1,(aW (aY hg)).2.1⟩
 obtain ⟨hb1,hb2⟩:=hb2;obtain ⟨ha1,ha2⟩:=ha2;have hg:=IU hg
 have PG:=IU fun (x z:Int) (s r:Bool) v v' W k k' (h1:aF W k v (Wh.a_ x.natAbs)) (h2:aF W k' v' (Wh.a_ z.natAbs)) (hx:Wh.sz x 1000) (hz:Wh.sz z 1000) (hs:s=decide (x<0)) (hr:r=decide (z<0))=>(hs ▸ hr ▸ pF a b x z v v' W k k' h1 h2 hx hz ha1 ha2 hb1 hb2:Calls prog 173 #[.agg #[a,b],.agg #[s,v,r,v']] W fun e w'=>∃ sl,e=.returned (.agg #[decide (ae a b x z<0),sl])/\aZ w' W sl (ae a b x z)/\Below W W w')
 have PD:=IU fun (x z:Int) (s r:Bool) v v' W k k' (h1:aF W k v (Wh.a_ x.natAbs)) (h2:aF W k' v' (Wh.a_ z.natAbs)) (hx:Wh.sz x 1000) (hz:Wh.sz z 1000) (hs:s=decide (x<0)) (hr:r=decide (z<0))=>(hs ▸ hr ▸ vY a b x z v v' W k k' hg.out h1 h2 hx hz:Calls prog 174 #[.agg #[a,b],.agg #[s,v,r,v']] W fun e w'=>∃ v1 v2,e=.returned (.tuple #[.agg #[decide (Wh.Kh (aO a b) (ai a b x z) (ae a b x z)<0),v1,decide (Wh.Ki (aO a b) (ai a b x z) (ae a b x z)<0),v2],fL (aO a b) (ai a b x z) (ae a b x z)])/\aZ w' W v1 (Wh.Kh (aO a b) (ai a b x z) (ae a b x z))/\aZ w' W v2 (Wh.Ki (aO a b) (ai a b x z) (ae a b x z))/\Below W W w')
 clear ha1 ha2 hb1 hb2
 have XI:=fun q A L C W=>mG q A L C W
 have L6:=IU (show M.run a b 0 (.val X (E*E))=.val X (E*E) from rfl);generalize hZ:E*E=Z at *;replace hZ:=IU hZ;generalize hs1:decide (X<0)=s1 at *;generalize hs2:decide (Z<0)=s2 at *;replace hs1:=IU hs1.symm;replace hs2:=IU hs2.symm;have P1:=IU P1;have hQ:=IU Q;have hZE:=hZ.out;go_enter func161,ntmps161
 go_wp2_with (go_at_call 172;(with_reducible refine (P1.out _).mono ?_);rintro e w4 ⟨v4,u4,rfl,Iq,Ti,hb4⟩;obtain ⟨a4,c4,rfl,I1,Ii⟩:=aF.view Iq;clear I1 Ii;obtain ⟨b4,d4,rfl,I1,Ii⟩:=aF.view Ti;clear I1 Ii;(generalize (Wh.a_ X.natAbs).length=l4 at *);(generalize (Wh.a_ Z.natAbs).length=m4 at *);replace ⟨C,B⟩:=Im hb4 C B;(replace ⟨f_,i_⟩:=C.b2))
 have Ji:w.heap.size+2<=w4.heap.size:=Nat.le_trans Lg hb4.size;have L:=Rw.Own.Hq ER ((s1,(a4,l4,c4),s2,(b4,m4,d4)):kr) w4 (w.heap.size+2) Ji;have ox:=aF.base (aF.alloc (show aF _ _ _ _ from Iq) (.cells #[s1,.slice a4 l4 c4,s2,.slice b4 m4 d4] 174)) (Nat.zero_le _);have oz:=aF.base (aF.alloc (show aF _ _ _ _ from Ti) (.cells #[s1,.slice a4 l4 c4,s2,.slice b4 m4 d4] 174)) (Nat.zero_le _);have C2:=C.alloc (.cells #[s1,.slice a4 l4 c4,s2,.slice b4 m4 d4] 174);have B2:=B.alloc B.size (.cells #[s1,.slice a4 l4 c4,s2,.slice b4 m4 d4] 174);have L:=IU L;have ox:=IU ox;have oz:=IU oz;clear Iq Ti C B f_ i_ q0 q1 q2 Q hQ hb4 P1 Lg hZE
 go_loopw [2,8] (fun vi vl wr=>∃ (k:Nat) (x z:Int) (xs:List kr) (q:kr),k<=n/\vi=.int .i64 ((n - k:Nat):Int)/\Hid (M.run a b k (.val X Z)=.val x z)/\Rw.Own ER wr (w.heap.size+2) vl xs/\Hid (xs.length=k+1)/\Hid (xs[k]?=some q)/\aF wr 0 (.slice q.2.1.1 q.2.1.2.1 q.2.1.2.2) (Wh.a_ x.natAbs)/\aF wr 0 (.slice q.2.2.2.1 q.2.2.2.2.1 q.2.2.2.2.2) (Wh.a_ z.natAbs)/\Hid (q.1=decide (x<0))/\Hid (q.2.2.1=decide (z<0))/\Wh.sz x 1000/\Wh.sz z 1000/\aG wr w 25 #[a,b]/\Below w w wr/\w.heap.size+2<=wr.heap.size) (fun vi _ _=>(intOf vi).toNat)
 case atStart=>exact ⟨0,X,Z,[((s1,(a4,l4,c4),s2,(b4,m4,d4)):kr)],((s1,(a4,l4,c4),s2,(b4,m4,d4)):kr),Nat.zero_le _,rfl,L6,L.out,IU rfl,IU rfl,ox.out,oz.out,hs1,hs2,zX.out,zE.out,C2,B2,by rw [IV];omega⟩
 case round=>
 clear L ox oz C2 B2 L6 hs1 hs2 zX zE Ji;obtain ⟨k,x,z,xs,q,hk,rfl,hrun,L,hlen,hq,ox,oz,hs,hr,zx,zz,C,B,hz⟩:=hrel;obtain ⟨s,⟨av,lv,cv⟩,r,⟨bv,mv,dv⟩⟩:=q
 dsimp only at ox oz hs hr
 rcases L.forms with ⟨rfl,rfl⟩ | ⟨g,cap,rfl,hg1,hg2,hcp1,hcp2⟩
 ·exact absurd hlen.out σ
 have hcl:=fun i u (hu:(ER.cells (s,(av,lv,cv),r,(bv,mv,dv)))[i]?=some u) (hi:i<4)=>Rw.Own.cellAt rfl L (k*4+i) u ((Rw.flat_get ER xs k i _ hq.out hi).trans hu)
 have Pu:wr.cell? ⟨g,k*4,none⟩=some (.bool s):=(hcl 0 _ rfl ω).1;have Pv:wr.cell? ⟨g,k*4+1,none⟩=some (.slice av lv cv):=(hcl 1 _ rfl ω).1;have Pw:wr.cell? ⟨g,k*4+2,none⟩=some (.bool r):=(hcl 2 _ rfl ω).1;have Px:wr.cell? ⟨g,k*4+3,none⟩=some (.slice bv mv dv):=(hcl 3 _ rfl ω).1;clear hcl;have hlen1:=hlen.out;rw [hlen1] at hcp1 L ⊢;have ox:=IU ox;have oz:=IU oz;have zx:=IU zx;have zz:=IU zz;have L:=IU L;have f_:=C.box.c0;have i_:=C.box.c1;clear hlen1
 by_cases hlt:k<n
 ·obtain ⟨j,hj⟩:∃ j:Nat,n - k=j+1:=⟨n - k - 1,ω⟩
  have hj2:=IU (show n - (k+1)=j by omega)
  have hjb:(j:Int)<=4:=ω
  rw [hj];clear hj
  have Oz:=IU fun v v' W i j h1 h2=>PG.out x z s r v v' W i j h1 h2 zx.out zz.out hs.out hr.out
  have Kg:=IU fun v v' W i j h1 h2=>PD.out x z s r v v' W i j h1 h2 zx.out zz.out hs.out hr.out
  have hnx:M.run a b (k+1) (.val X Z)=M.nx a b (.val x z):=by show M.nx a b (M.run a b k (.val X Z))=_;rw [hrun.out]
  unfold M.nx at hnx
  dsimp only at hnx
  clear PG PD hs hr
  have Ko:=fun h=>ol (nY (D:=aO a b) (F:=ai a b x z) (G:=ae a b x z) h)
  have N6:fL (aO a b) (ai a b x z) (ae a b x z)=true->Wh.Kh (aO a b) (ai a b x z) (ae a b x z)=Wh.MO (aO a b) (ai a b x z) (ae a b x z)/\Wh.Ki (aO a b) (ai a b x z) (ae a b x z)=Wh.MN (aO a b) (ai a b x z) (ae a b x z):=fun h=>by unfold Wh.Kh Wh.Ki;rw [if_pos h,if_pos h];exact ⟨rfl,rfl⟩
  generalize fL (aO a b) (ai a b x z) (ae a b x z)=ok,Wh.MN (aO a b) (ai a b x z) (ae a b x z)=dd,Wh.MO (aO a b) (ai a b x z) (ae a b x z)=nn,Wh.Ki (aO a b) (ai a b x z) (ae a b x z)=z',Wh.Kh (aO a b) (ai a b x z) (ae a b x z)=x' at *;have hG0:=@gX (ae a b x z);generalize ae a b x z=G at *;generalize decide (G<0)=sg at *;have N:=aG.new wr #[s,.slice av lv cv,r,.slice bv mv dv] 174;have C3:=C.alloc (.cells #[s,.slice av lv cv,r,.slice bv mv dv] 174);have LS:=IU (aF.alloc ox.out (.cells #[s,.slice av lv cv,r,.slice bv mv dv] 174));have LT:=IU (aF.alloc oz.out (.cells #[s,.slice av lv cv,r,.slice bv mv dv] 174));have L3:=IU (Rw.Own.alloc L.out (.cells #[s,.slice av lv cv,r,.slice bv mv dv] 174));have B3:=B.alloc B.size (.cells #[s,.slice av lv cv,r,.slice bv mv dv] 174);have K4:=C3.box.c0;have K6:=C3.box.c1;have Ll:=N.aK.c0;have Lm:=N.aK.c1;have Ln:=N.aK.c2;have Lo:=N.aK.c3
  by_cases hG:G=0
  ·rw [if_pos hG] at hnx
   have hfin:=IU (rY hnx n ω);have hl0:=hG0.2 hG;clear hnx hG hG0 Ko N6 Kg;generalize QH:(Wh.a_ G.natAbs).length=lg at *;subst hl0;replace QH:=IU QH
   go_wp2_with (go_at_call 173;(with_reducible refine (Oz.out _ _ _ _ _ LS.out LT.out).mono ?_);rintro e w4 ⟨v4,rfl,Iq,hb4⟩;obtain ⟨a4,c4,rfl,I1,Ii⟩:=aF.view Iq;clear I1 Ii;(rw [QH.out] at Iq ⊢);replace ⟨C3,N,B3⟩:=I7 hb4 C3 N B3;(replace ⟨K4,K6⟩:=C3.b2);(replace ⟨Ll,Lm,Ln,Lo⟩:=N.b4))
   exact bodyPost_ret (v:=.tuple #[.slice (some ⟨g,0,none⟩) (k+1) cap,true]) (by simp [results,results161,go_sem, *]) rfl (⟨_,_,rfl,(by rw [hout.out,hfin.out];exact ⟨rfl,_,_,_,rfl⟩),B3⟩)
  rw [if_neg hG] at hnx
  have hl0:¬ (Wh.a_ G.natAbs).length=0:=fun h=>hG (hG0.1 h)
  have hlq:(((Wh.a_ G.natAbs).length:Int) == 0)=false:=by rw [beq_eq_false_iff_ne];omega
  clear hG hG0
  cases ok with
  | false=>
   have hfin:=IU (rX hnx n ω);clear hnx Ko N6;generalize decide (z'<0)=r',decide (x'<0)=s' at *
   go_wp2_with (first
    | (go_at_call 173;(with_reducible refine (Oz.out _ _ _ _ _ LS.out LT.out).mono ?_);rintro e w4 ⟨v4,rfl,Iq,hb4⟩;obtain ⟨a4,c4,rfl,I1,Ii⟩:=aF.view Iq;clear I1 Ii Iq;(generalize (Wh.a_ G.natAbs).length=lg at *);replace L3:=IU (Rw.Own.below L3.out hb4);replace ⟨C3,N⟩:=Im hb4 C3 N;replace LS:=kO LS hb4;replace LT:=kO LT hb4;replace B3:=j_ B3 hb4;(replace ⟨K4,K6⟩:=C3.b2);(replace ⟨Ll,Lm,Ln,Lo⟩:=N.b4))
    | (go_at_call 174;(with_reducible refine (Kg.out _ _ _ _ _ LS.out LT.out).mono ?_);rintro e w5 ⟨v5,u5,rfl,JU,LO,hb5⟩;replace ⟨C3,N⟩:=Im hb5 C3 N;replace LS:=kO LS hb5;replace LT:=kO LT hb5;replace B3:=j_ B3 hb5;replace L3:=IU (Rw.Own.below L3.out hb5);obtain ⟨a5,c5,rfl,I1,Ii⟩:=aF.view JU;clear I1 Ii;obtain ⟨b5,d5,rfl,I1,Ii⟩:=aF.view LO;clear I1 Ii;have on:=IU (aF.alloc (show aF _ _ _ _ from JU) (.cells #[s',.slice a5 (Wh.a_ x'.natAbs).length c5,r',.slice b5 (Wh.a_ z'.natAbs).length d5] 174));have om:=IU (aF.alloc (show aF _ _ _ _ from LO) (.cells #[s',.slice a5 (Wh.a_ x'.natAbs).length c5,r',.slice b5 (Wh.a_ z'.natAbs).length d5] 174));clear JU LO;(generalize (Wh.a_ x'.natAbs).length=l5 at *);(generalize (Wh.a_ z'.natAbs).length=m5 at *);replace L3:=IU (Rw.Own.alloc L3.out (.cells #[s',.slice a5 l5 c5,r',.slice b5 m5 d5] 174));have M_:=aG.new w5 #[s',.slice a5 l5 c5,r',.slice b5 m5 d5] 174;have b_:=bA w5 (.cells #[s',.slice a5 l5 c5,r',.slice b5 m5 d5] 174);replace ⟨C3,N⟩:=Im b_ C3 N;replace LS:=kO LS b_;replace LT:=kO LT b_;replace B3:=j_ B3 b_;clear b_;(replace ⟨K4,K6⟩:=C3.b2);(replace ⟨Ll,Lm,Ln,Lo⟩:=N.b4);(replace ⟨RR,RS,RT,RU⟩:=M_.b4)))
   exact bodyPost_ret (v:=.tuple #[.slice (some ⟨g,0,none⟩) (k+1) cap,false]) (by simp [results,results161,go_sem, *]) rfl (⟨_,_,rfl,(by rw [hout.out,hfin.out];exact ⟨rfl,_,_,_,rfl,ω⟩),B3⟩)
  | true=>
  rw [if_pos rfl] at hnx;obtain ⟨hxn,hzn⟩:=N6 rfl;obtain ⟨zn,zd⟩:=Ko rfl;subst hxn hzn;clear N6 Ko;have zn:=IU zn;have zd:=IU zd;have hnx:=IU hnx;generalize hs5:decide (x'<0)=s' at *;generalize QM:decide (z'<0)=r' at *;replace hs5:=IU hs5.symm;replace QM:=IU QM.symm;clear hrun zx zz
  go_wp2_with (first
   | (go_at_call 173;(with_reducible refine (Oz.out _ _ _ _ _ LS.out LT.out).mono ?_);rintro e w4 ⟨v4,rfl,Iq,hb4⟩;obtain ⟨a4,c4,rfl,I1,Ii⟩:=aF.view Iq;clear I1 Ii Iq;(generalize (Wh.a_ G.natAbs).length=lg at *);replace L3:=IU (Rw.Own.below L3.out hb4);replace ⟨C3,N⟩:=Im hb4 C3 N;replace LS:=kO LS hb4;replace LT:=kO LT hb4;replace B3:=j_ B3 hb4;(replace ⟨K4,K6⟩:=C3.b2);(replace ⟨Ll,Lm,Ln,Lo⟩:=N.b4))
   | (go_at_call 174;(with_reducible refine (Kg.out _ _ _ _ _ LS.out LT.out).mono ?_);rintro e w5 ⟨v5,u5,rfl,JU,LO,hb5⟩;replace ⟨C3,N⟩:=Im hb5 C3 N;replace LS:=kO LS hb5;replace LT:=kO LT hb5;replace B3:=j_ B3 hb5;replace L3:=IU (Rw.Own.below L3.out hb5);obtain ⟨a5,c5,rfl,I1,Ii⟩:=aF.view JU;clear I1 Ii;obtain ⟨b5,d5,rfl,I1,Ii⟩:=aF.view LO;clear I1 Ii;have on:=IU (aF.alloc (show aF _ _ _ _ from JU) (.cells #[s',.slice a5 (Wh.a_ x'.natAbs).length c5,r',.slice b5 (Wh.a_ z'.natAbs).length d5] 174));have om:=IU (aF.alloc (show aF _ _ _ _ from LO) (.cells #[s',.slice a5 (Wh.a_ x'.natAbs).length c5,r',.slice b5 (Wh.a_ z'.natAbs).length d5] 174));clear JU LO;(generalize (Wh.a_ x'.natAbs).length=l5 at *);(generalize (Wh.a_ z'.natAbs).length=m5 at *);replace L3:=IU (Rw.Own.alloc L3.out (.cells #[s',.slice a5 l5 c5,r',.slice b5 m5 d5] 174));have M_:=aG.new w5 #[s',.slice a5 l5 c5,r',.slice b5 m5 d5] 174;have b_:=bA w5 (.cells #[s',.slice a5 l5 c5,r',.slice b5 m5 d5] 174);replace ⟨C3,N⟩:=Im b_ C3 N;replace LS:=kO LS b_;replace LT:=kO LT b_;replace B3:=j_ B3 b_;clear b_;(replace ⟨K4,K6⟩:=C3.b2);(replace ⟨Ll,Lm,Ln,Lo⟩:=N.b4);(replace ⟨RR,RS,RT,RU⟩:=M_.b4))
   | (at_builtin;refine oi Hf (w.heap.size+2) [((s',(a5,l5,c5),r',(b5,m5,d5)):kr)] xs _ ⟨w5.heap.size+1,0,none⟩ 1 1 (by rfl) (by rfl) (.tmp 50) (.tmp 52) (by rfl) (by rfl) (by rfl) (Rw.From.lit ER _ ((s',(a5,l5,c5),r',(b5,m5,d5)):kr) (w5.heap.size+1) (IV _ _)) (by have:=Rw.Own.alloc L3.out (.cells #[s',.slice a5 l5 c5,r',.slice b5 m5 d5] 174);exact this) (by have Nx:=hb4.size;have Pq:=hb5.size;(try simp only [IV] at Nx Pq ⊢);omega) (by rw [hlen.out];simp;omega) ?_;intro v6 w6 hown6 Ku Py;have C6:=aG.grown (C3.alloc (.cells #[s',.slice a5 l5 c5,r',.slice b5 m5 d5] 174)) Ku (fun e=>by have e2:g=w.heap.size:=Option.some.inj e;omega);have on6:=IU (aF.vy (aF.alloc on.out (.cells #[s',.slice a5 l5 c5,r',.slice b5 m5 d5] 174)) (Rw.Own.alloc L3.out (.cells #[s',.slice a5 l5 c5,r',.slice b5 m5 d5] 174)) Ku);have om6:=IU (aF.vy (aF.alloc om.out (.cells #[s',.slice a5 l5 c5,r',.slice b5 m5 d5] 174)) (Rw.Own.alloc L3.out (.cells #[s',.slice a5 l5 c5,r',.slice b5 m5 d5] 174)) Ku);have B6:=Below.grown (B3.alloc B3.size (.cells #[s',.slice a5 l5 c5,r',.slice b5 m5 d5] 174)) Ku (B3.alloc B3.size (.cells #[s',.slice a5 l5 c5,r',.slice b5 m5 d5] 174)).size (fun k_ hk_=>by have e2:g=k_:=Option.some.inj hk_;omega);have hown6:=IU hown6;have MS:=Ku.size;have YI:=hb4.size;have YJ:=hb5.size))
  go_roundw
  case rel=>exact ⟨k+1,x',z',xs ++ [((s',(a5,l5,c5),r',(b5,m5,d5)):kr)],((s',(a5,l5,c5),r',(b5,m5,d5)):kr),ω,(by first | (rw [hj2.out];done) | (rw [hj2.out];go_num)),hnx,hown6.out,IU (by rw [List.length_append,hlen.out];rfl),IU (by rw [List.getElem?_append_right (by rw [hlen.out];omega),hlen.out,Nat.sub_self];rfl),aF.base on6.out (Nat.zero_le _),aF.base om6.out (Nat.zero_le _),hs5,QM,zn.out,zd.out,C6,B6,by (try simp only [IV] at MS YI YJ);omega⟩
  case measure=>simp [intOf] <;> omega
 obtain rfl:k=n:=ω
 rw [Nat.sub_self];go_wp2;exact bodyPost_ret (v:=.tuple #[.slice (some ⟨g,0,none⟩) (k+1) cap,false]) (by simp [results,results161,go_sem, *]) rfl (⟨_,_,rfl,(by rw [hout.out,hrun.out];exact ⟨rfl,zx.out,zz.out,g,cap,s,av,lv,cv,r,bv,mv,dv,rfl,Pu,Pv,Pw,Px,hs,hr,ox.out,oz.out⟩),B⟩)
end
section
open Go.RowKit open M
noncomputable def NW (n d:Int):Bool:=kJ (cY n d) (bU n d)
theorem jh (a b:Int) (w:World) (h1:-4000000000000000000<=a) (h2:a<=4000000000000000000) (h3:-4000000000000000000<=b) (h4:b<=4000000000000000000) :
  cP 52 #[.int .i64 (a.natAbs:Int),.int .i64 (b.natAbs:Int)] w (.int .i64 (M.gcd a b)):=by
 rw [show M.gcd a b=M.gcd a.natAbs b.natAbs from by simp [M.gcd,Int.gcd]];exact dR _ _ _ ω ω ω ω
theorem Aw (n d:Int) (w:World) (h1:-4000000000000000000<=n) (h2:n<=4000000000000000000) (h3:-4000000000000000000<=d) (h4:d<=4000000000000000000) (h0:d≠0) :
  cB 152 #[n,d] w (.tuple #[.agg #[M.pick (NW (n) (d)) (cY (n) (d)),M.pick (NW (n) (d)) (bU (n) (d))],NW (n) (d)]:Value):=by
 have g1:=qr (a:=n) h0;have g2:=A0 (a:=n) h0;have t1:=gO (a:=n) (d:=M.gcd n d) h1 h2 ω;have t2:=gO (a:=d) (d:=M.gcd n d) h3 h4 ω
 have E:=fun w=>sv (cY n d) (bU n d) w
 unfold NW
 by_cases hn:d<0
 ·rw [gt hn,gp hn] at E ⊢
  cases hok:kJ (-n.tdiv (M.gcd n d)) (-d.tdiv (M.gcd n d)) <;> simp only [hok] at E <;> have E:=IU E
  all_goals
   have w1:=IntWalk.i64_in (-n.tdiv (M.gcd n d)) ω;have w2:=IntWalk.i64_in (-d.tdiv (M.gcd n d)) ω
   have hg0:¬ -M.gcd n d=0:=ω
   go_enter func152,ntmps152
   go_wp2_with (first | (go_at_call 53;refine (df _ _ ω ω).mono ?_;rintro e w' ⟨rfl,rfl⟩) | (go_at_call 52;refine (jh n d _ h1 h2 h3 h4).mono ?_;rintro e w' ⟨rfl,rfl⟩))
   go_region
   all_goals
    clear w1 w2
    go_wp2_with (go_at_call 101;refine (E.out _).mono ?_;rintro e w' ⟨rfl,hb⟩;have Qb:=hb.size;(try simp only [IV,cF,World.heap_drewN,bF] at Qb);have SW:w.heap.size<w'.heap.size:=ω;have XP:=fun o=>(jg hb).1 (w.heap.size) o (by (try simp only [IV,cF,World.heap_drewN,bF]);omega);have XU:=fun o=>(jg hb).2.1 (w.heap.size) o (by (try simp only [IV,cF,World.heap_drewN,bF]);omega);have Xg:w.heap.size+1<w'.heap.size:=ω;have XR:=fun o=>(jg hb).1 (w.heap.size+1) o (by (try simp only [IV,cF,World.heap_drewN,bF]);omega);have XV:=fun o=>(jg hb).2.1 (w.heap.size+1) o (by (try simp only [IV,cF,World.heap_drewN,bF]);omega))
    first
     | (refine bodyPost_ret (v:=.tuple #[.agg #[(0:Int),(0:Int)],false]) ?_ rfl ?_;(· (simp [results,results152,go_sem, *];done));(· (refine ⟨?_,Jz⟩;(simp [lQ];done))))
     | (refine bodyPost_ret (v:=.tuple #[.agg #[(-n.tdiv (M.gcd n d):Int),(-d.tdiv (M.gcd n d):Int)],true]) ?_ rfl ?_;(· (simp [results,results152,go_sem, *];done));(· (refine ⟨?_,Jz⟩;(simp [jE];done))))
 rw [d9 ω,d8 ω] at E ⊢
 cases hok:kJ (n.tdiv (M.gcd n d)) (d.tdiv (M.gcd n d)) <;> simp only [hok] at E <;> have E:=IU E
 all_goals
  have w1:=IntWalk.i64_in (n.tdiv (M.gcd n d)) ω;have w2:=IntWalk.i64_in (d.tdiv (M.gcd n d)) ω
  have hg0:¬ M.gcd n d=0:=ω
  go_enter func152,ntmps152
  go_wp2_with (first | (go_at_call 53;refine (df _ _ ω ω).mono ?_;rintro e w' ⟨rfl,rfl⟩) | (go_at_call 52;refine (jh n d _ h1 h2 h3 h4).mono ?_;rintro e w' ⟨rfl,rfl⟩))
  go_region
  all_goals
   clear w1 w2
   go_wp2_with (go_at_call 101;refine (E.out _).mono ?_;rintro e w' ⟨rfl,hb⟩;have Qb:=hb.size;(try simp only [IV,cF,World.heap_drewN,bF] at Qb);have SW:w.heap.size<w'.heap.size:=ω;have XP:=fun o=>(jg hb).1 (w.heap.size) o (by (try simp only [IV,cF,World.heap_drewN,bF]);omega);have XU:=fun o=>(jg hb).2.1 (w.heap.size) o (by (try simp only [IV,cF,World.heap_drewN,bF]);omega);have Xg:w.heap.size+1<w'.heap.size:=ω;have XR:=fun o=>(jg hb).1 (w.heap.size+1) o (by (try simp only [IV,cF,World.heap_drewN,bF]);omega);have XV:=fun o=>(jg hb).2.1 (w.heap.size+1) o (by (try simp only [IV,cF,World.heap_drewN,bF]);omega))
   first
    | (refine bodyPost_ret (v:=.tuple #[.agg #[(0:Int),(0:Int)],false]) ?_ rfl ?_;(· (simp [results,results152,go_sem, *];done));(· (refine ⟨?_,Jz⟩;(simp [lQ];done))))
    | (refine bodyPost_ret (v:=.tuple #[.agg #[n.tdiv (M.gcd n d),d.tdiv (M.gcd n d)],true]) ?_ rfl ?_;(· (simp [results,results152,go_sem, *];done));(· (refine ⟨?_,Jz⟩;(simp [jE];done))))
namespace M
noncomputable def Jr (n d:Int):Option (Int × Int):=if NW n d then some (cY n d,bU n d) else none
def fN (r:Option (Int × Int)):Int:=(r.getD (0,0)).1
def fD (r:Option (Int × Int)):Int:=(r.getD (0,0)).2
theorem F4 (n d:Int):(.tuple #[.agg #[M.pick (NW (n) (d)) (cY (n) (d)),M.pick (NW (n) (d)) (bU (n) (d))],NW (n) (d)]:Value)=.tuple #[.agg #[fN (Jr n d),fD (Jr n d)],.bool (Jr n d).isSome]:=by
 unfold Jr
 cases h:NW n d <;> simp [lQ,jE,fN,fD]
theorem DS {n d:Int} (h:kJ n d=true):-1000000000<=n/\n<=1000000000/\1<=d/\d<=1000000000:=by
 unfold kJ at h;simp only [Bool.and_eq_true] at h;have h1:=jj h.1.1;have h2:=jj h.1.2;omega
end M
theorem sw (n d:Int) (w:World) (h1:-4000000000000000000<=n) (h2:n<=4000000000000000000) (h3:-4000000000000000000<=d) (h4:d<=4000000000000000000) (h0:d≠0) :
  cB 152 #[n,d] w (.tuple #[.agg #[M.fN (M.Jr n d),M.fD (M.Jr n d)],.bool (M.Jr n d).isSome]):=by
 rw [←F4];exact Aw n d w h1 h2 h3 h4 h0
theorem DR (n:Int) (w:World) :
  cB 119 #[n] w (.agg #[n,(1:Int)]):=by
 go_enter func119,ntmps119
 go_wp2;exact D_ results119 ⟨rfl,Jz⟩
end
end Go.Proofs.YtkalaljcbmkbmaaGreat
