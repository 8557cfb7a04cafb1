/-
  Joined texts: contracts and plain lemmas.
-/
import Derived.Test.YtkalaljcbmkbmaaGreatB1
import Derived.Test.YtkalaljcbmkbmaaGreatB3
import Derived.Orders
import Derived.Deep.DeepCutAuto
import Derived.WalkKit
set_option linter.unusedSimpArgs false
set_option linter.unusedVariables false
set_option maxRecDepth 100000
set_option maxHeartbeats 8000000
namespace Go.Proofs.YtkalaljcbmkbmaaGreat
section
open Go.RowKit
theorem qL (l:List Int) (v:Value) (w:World) (base:Nat) (hown:aF w base v l) (h:Wh.bD l) (hl:l.length<=100000) :
  Calls Tryz.prog 77 #[v,(0:Int),(9999:Int)] w fun e w'=>e=.returned (.bool true)/\Below w.heap.size w w':=by
 obtain ⟨a,cap,rfl,hm,hv⟩:=hown.seen;have hv:=DB hv;have h:=DB h;clear hm hown;go_enter Tryz.func77,Tryz.ntmps77
 go_wp2
 go_loopw [8,11] (fun _ vi wr=>∃ k:Nat,k<=l.length/\vi=.int .i64 k/\Below w.heap.size w wr) (fun _ vi _=>l.length - (intOf vi).toNat)
 case atStart=>exact ⟨0,Nat.zero_le _,rfl,DE _ _⟩
 case round=>
 obtain ⟨k,hk,rfl,hbr⟩:=hrel
 by_cases hlt:k<l.length
 ·obtain ⟨g,y,rfl,hg,hy,hcell⟩:=hv.out k hlt
  have hc:=aE hbr hcell;have IX:=h.out y (List.mem_of_getElem? hy.out)
  have PI:=fun W=>dl y 0 9999 W
  rw [show M.ins y 0 9999=true by unfold M.ins;unfold Wh.lim at IX;simp;omega] at PI;replace PI:=DB PI;clear hcell hy IX
  go_wp2_with (go_at_call 35;(with_reducible refine (PI.out _).mono ?_);rintro e w5 ⟨rfl,rfl⟩)
  go_roundw
  case rel=>exact ⟨k+1,by omega,by go_num,hbr⟩
  case measure=>simp [intOf];omega
 obtain rfl:k=l.length:=by omega
 go_wp2;go_ret;exact ⟨rfl,hbr⟩
theorem pR (z:Int) (va:Value) (w:World) (ba:Nat) (ho:ae w ba va z) (hl:(Wh.a_ z.natAbs).length<=100000) :
  Calls Tryz.prog 203 #[.agg #[decide (z<0),va]] w fun e w'=>e=.returned (.bool (decide ((Wh.a_ z.natAbs).length<=400)))/\Below w.heap.size w w':=by
 obtain ⟨aa,j_,rfl,hma,hva⟩:=aF.seen ho;have hva:=DB hva
 have PL:=fun W (h:aF W ba (.slice aa (Wh.a_ z.natAbs).length j_) (Wh.a_ z.natAbs))=>qL (Wh.a_ z.natAbs) (.slice aa (Wh.a_ z.natAbs).length j_) W ba h (Wh.an _) hl
 have hoo:=DB (show aF w ba (.slice aa (Wh.a_ z.natAbs).length j_) (Wh.a_ z.natAbs) from ho)
 have hls:=fun n h=>Wh.ph (m:=z.natAbs) (n:=n) h
 have hz0:Hid ((Wh.a_ z.natAbs).length=0->decide (z<0)=false):=DB fun h=>by
  have:=Wh.gv.1 (List.length_eq_zero_iff.1 h);exact decide_eq_false (by omega)
 clear hma ho;generalize Wh.a_ z.natAbs=xs,decide (z<0)=s1 at *;replace PL:=DB PL;replace hls:=DB hls;have b1:=ay.new w (.bool s1) (.slice aa xs.length j_) 116;have hB:=(DE w.heap.size w).alloc (DF _) (.cells #[s1,.slice aa xs.length j_] 116)
 by_cases h4:xs.length<=400
 ·rw [decide_eq_true h4]
  have ho3:=aF.alloc hoo.out (.cells #[s1,.slice aa xs.length j_] 116);generalize hw3:w.alloc (.cells #[s1,.slice aa xs.length j_] 116)=w3 at *;have PX:=PL.out w3 ho3;have e1:=b1.c0;have e2:=b1.c1;have bh:=DB b1
  by_cases hn:xs.length=0
  ·have hs:=hz0.out hn
   subst hs;rw [hn] at e2 hw3 PX ⊢;replace PX:=DB PX;rw [hn] at bh;clear hn hls hz0 b1 hl h4 ho3;go_enter Tryz.func203,Tryz.ntmps203
   go_wp2_with (go_at_call 77;(with_reducible refine (PX.out).mono ?_);rintro e w5 ⟨rfl,hb5⟩;have c5:=bh.out.keep hb5;have f1:=c5.c0;have f2:=c5.c1)
   go_ret;exact ⟨rfl,d_ hB hb5⟩
  obtain ⟨n,hn1⟩:∃ n,xs.length=n+1:=⟨xs.length - 1,by omega⟩
  obtain ⟨x,hx,hx0⟩:=hls.out n hn1;obtain ⟨ga,x',ea,hga,hxa,hca⟩:=hva.out n (by omega);subst ea;obtain rfl:=Option.some.inj (hx.symm.trans hxa.out);have G8:=hB.cell (p:=⟨ga,n,none⟩) hga;have F9:=G8.trans hca
  have h4':n+1<=400:=by omega
  have hd1:decide ((n:Int)+1<=400)=true:=decide_eq_true (by omega);have hd3:((n:Int)+1 == 0)=false:=beq_eq_false_iff_ne.2 (by omega);have hd4:decide (0<x)=true:=decide_eq_true hx0;rw [hn1] at e2 hw3 PX bh ⊢;replace hn1:=DB hn1;replace PX:=DB PX;clear hca G8 hx hn hxa hls hz0 b1 hl h4 ho3;go_enter Tryz.func203,Tryz.ntmps203
  go_wp2_with (go_at_call 77;(with_reducible refine (PX.out).mono ?_);rintro e w5 ⟨rfl,hb5⟩;have c5:=bh.out.keep hb5;have f1:=c5.c0;have f2:=c5.c1;have f3:=aE hb5 F9)
  go_ret;exact ⟨rfl,d_ hB hb5⟩
 rw [decide_eq_false h4];go_enter Tryz.func203,Tryz.ntmps203
 go_wp2;go_ret;exact ⟨rfl,hB⟩
theorem iN (a:Int) (n:Nat) (va:Value) (w:World) (ba:Nat) (hoa:ae w ba va a) (hl:(Wh.a_ a.natAbs).length<=9000) (hn1:1<=n) (hn2:n<=1000000000000) :
  Calls Tryz.prog 198 #[.agg #[decide (a<0),va],.int .i64 (n:Int)] w fun e w'=>e=.returned (.int .i64 (Nat.gcd (a.natAbs % n) n:Nat))/\Below w.heap.size w w':=by
 obtain ⟨aa,j_,rfl,-,-⟩:=aF.view hoa
 have PA:=fun W (h:aF W ba (.slice aa (Wh.a_ a.natAbs).length j_) (Wh.a_ a.natAbs))=>jl a (.slice aa (Wh.a_ a.natAbs).length j_) W ba h (by omega)
 have PD:=fun va W b (h:aF W b va (Wh.a_ a.natAbs))=>jv a.natAbs n va W b h hl hn1 hn2
 have hlt:a.natAbs % n<n:=Nat.mod_lt _ (by omega)
 have PG:=fun W=>qC ((a.natAbs % n:Nat):Int) (n:Int) W (by omega) (by omega) (by omega) (by omega)
 rw [show M.gcd ((a.natAbs % n:Nat):Int) (n:Int)=((Nat.gcd (a.natAbs % n) n:Nat):Int) from rfl] at PG;replace hoa:=DB (show aF _ _ _ _ from hoa);generalize a.natAbs=N,a.natAbs / n=q,a.natAbs % n=r,Nat.gcd (a.natAbs % n) n=g,decide (a<0)=s1 at *;have b1:=ay.new w (.bool s1) (.slice aa (Wh.a_ N).length j_) 116;have hB:=(DE w.heap.size w).alloc (DF _) (.cells #[s1,.slice aa (Wh.a_ N).length j_] 116);have ho1:=aF.alloc hoa.out (.cells #[s1,.slice aa (Wh.a_ N).length j_] 116);generalize hw3:w.alloc (.cells #[s1,.slice aa (Wh.a_ N).length j_] 116)=w3 at *;have e1:=b1.c0;have e2:=b1.c1;replace PA:=DB PA;replace PD:=DB PD;replace PG:=DB PG;go_enter Tryz.func198,Tryz.ntmps198
 go_wp2_with (first
  | (go_at_call 184;(with_reducible refine (PA.out _ ho1).mono ?_);rintro e w4 ⟨v4,rfl,DS,hb4⟩)
  | (go_at_call 181;(with_reducible refine (PD.out _ _ _ DS).mono ?_);rintro e w5 ⟨v5,rfl,Dw,hb5⟩;obtain ⟨a5,cap5,rfl,H6,hv5⟩:=aF.view Dw;clear hv5 H6)
  | (go_at_call 83;(with_reducible refine (PG.out _).mono ?_);rintro e w6 ⟨rfl,m6,rfl⟩))
 go_ret;have B4:=d_ hB hb4;have B5:=d_ B4 hb5;exact ⟨rfl,aN (B5.alloc B5.size _) _⟩
structure jJ (w:World) (b:Nat) (u v x y:Value):Prop where
 c0:w.cell? ⟨b,0,none⟩=some u
 c1:w.cell? ⟨b,1,none⟩=some v
 c2:w.cell? ⟨b,2,none⟩=some x
 c3:w.cell? ⟨b,3,none⟩=some y
 f0:w.frozen? ⟨b,0,none⟩=false
 f1:w.frozen? ⟨b,1,none⟩=false
 f2:w.frozen? ⟨b,2,none⟩=false
 f3:w.frozen? ⟨b,3,none⟩=false
 size:b<w.heap.size
theorem jJ.keep {w w':World} {b:Nat} {u v x y:Value} (h:jJ w b u v x y) (hb:Below w.heap.size w w'):jJ w' b u v x y:=
 have hg:=bw hb none
 ⟨hg.cell h.c0 (by simp),hg.cell h.c1 (by simp),hg.cell h.c2 (by simp),hg.cell h.c3 (by simp),(Gr.frozen hg h.size (by simp)).trans h.f0,(Gr.frozen hg h.size (by simp)).trans h.f1,(Gr.frozen hg h.size (by simp)).trans h.f2,(Gr.frozen hg h.size (by simp)).trans h.f3,Gr.lZ hg h.size⟩
theorem jJ.new (w:World) (u v x y:Value) (T:TypeId):jJ (w.alloc (.cells #[u,v,x,y] T)) w.heap.size u v x y:=
 ⟨by rw [World.cell?_alloc_at _ _ _ _ rfl];rfl,by rw [World.cell?_alloc_at _ _ _ _ rfl];rfl,by rw [World.cell?_alloc_at _ _ _ _ rfl];rfl,by rw [World.cell?_alloc_at _ _ _ _ rfl];rfl,by simp [go_sem],by simp [go_sem],by simp [go_sem],by simp [go_sem],by rw [DC];omega⟩
namespace Wh
def dQ (x z:Int):Bool:=(decide ((a_ x.natAbs).length<=80) && M.ins (a_ z.natAbs).length 1 80) && !decide (z<0)
theorem qU {x z:Int} (h:¬ (a_ x.natAbs).length<=80):dQ x z=false:=by unfold dQ;rw [decide_eq_false h];rfl
theorem qV {x z:Int} (h:¬ (a_ z.natAbs).length<=80):dQ x z=false:=by
 unfold dQ;rw [show M.ins ((a_ z.natAbs).length:Int) 1 80=false by unfold M.ins;simp;omega];simp
end Wh
theorem mV (x z:Int) (vx vz:Value) (w:World) (bx bz:Nat) (hox:ae w bx vx x) (Dl:ae w bz vz z) (hl1:(Wh.a_ x.natAbs).length<=100000) (hl2:(Wh.a_ z.natAbs).length<=100000) :
  Calls Tryz.prog 183 #[.agg #[decide (x<0),vx,decide (z<0),vz]] w fun e w'=>e=.returned (.bool (Wh.dQ x z))/\Below w.heap.size w w':=by
 obtain ⟨ax,cx,rfl,-,-⟩:=aF.view hox;obtain ⟨az,cz,rfl,-,-⟩:=aF.view Dl
 have P1:=fun W (h:aF W bx (.slice ax (Wh.a_ x.natAbs).length cx) (Wh.a_ x.natAbs))=>mW x (.slice ax (Wh.a_ x.natAbs).length cx) W bx h hl1
 have P2:=fun W (h:aF W bz (.slice az (Wh.a_ z.natAbs).length cz) (Wh.a_ z.natAbs))=>mW z (.slice az (Wh.a_ z.natAbs).length cz) W bz h hl2
 have GW:Hid (∀ W,Below w.heap.size w W->aF W bx (.slice ax (Wh.a_ x.natAbs).length cx) (Wh.a_ x.natAbs)):=DB fun W h=>aF.below hox h
 have G5:Hid (∀ W,Below w.heap.size w W->aF W bz (.slice az (Wh.a_ z.natAbs).length cz) (Wh.a_ z.natAbs)):=DB fun W h=>aF.below Dl h
 have hf1:=DB fun h=>Wh.qU (x:=x) (z:=z) h
 have hf2:=DB fun h=>Wh.qV (x:=x) (z:=z) h
 have hrt:Hid (Wh.dQ x z=((decide ((Wh.a_ x.natAbs).length<=80) && M.ins (Wh.a_ z.natAbs).length 1 80) && !decide (z<0))):=DB rfl;clear hox Dl;generalize Wh.a_ z.natAbs=zs,Wh.a_ x.natAbs=xs,decide (z<0)=s2,decide (x<0)=s1,Wh.dQ x z=rt at *;generalize zs.length=lz,xs.length=lx at *;have b1:=jJ.new w (.bool s1) (.slice ax lx cx) (.bool s2) (.slice az lz cz) 174;have hB:=(DE w.heap.size w).alloc (DF _) (.cells #[s1,.slice ax lx cx,s2,.slice az lz cz] 174);generalize hw3:w.alloc (.cells #[s1,.slice ax lx cx,s2,.slice az lz cz] 174)=w3 at *;have e0:=b1.c0;have e1:=b1.c1;have e2:=b1.c2;have e3:=b1.c3;have bh:=DB b1;clear b1
 by_cases h1:lx<=400
 ·rw [decide_eq_true h1] at P1
  replace P1:=DB P1
  by_cases h2:lz<=400
  ·rw [decide_eq_true h2] at P2
   replace P2:=DB P2
   by_cases h3:lx<=80
   ·have hd:decide ((lx:Int)<=80)=true:=decide_eq_true (by omega)
    have PI:=fun W=>cQ (lz:Int) 1 80 W
    cases hi:M.ins (lz:Int) 1 80
    ·have hr:Hid (rt=false):=DB (by rw [hrt.out,hi,Bool.and_false];rfl)
     rw [hi] at PI;replace PI:=DB PI;go_enter Tryz.func183,Tryz.ntmps183
     go_wp2_with (first | (go_at_call 199;(with_reducible refine (P1.out _ (GW.out _ hB)).mono ?_);rintro e w4 ⟨rfl,hb4⟩;have r4:=bh.out.keep hb4;have g0:=r4.c0;have g1:=r4.c1;have g2:=r4.c2;have g3:=r4.c3;have B4:=d_ hB hb4) | (go_at_call 199;(with_reducible refine (P2.out _ (G5.out _ B4)).mono ?_);rintro e w5 ⟨rfl,hb5⟩;have r5:=r4.keep hb5;have k0:=r5.c0;have k1:=r5.c1;have k2:=r5.c2;have k3:=r5.c3;have B5:=d_ B4 hb5) | (go_at_call 28;(with_reducible refine (PI.out _).mono ?_);rintro e w6 ⟨rfl,rfl⟩))
     go_ret;exact ⟨by rw [hr.out] <;> rfl,B5⟩
    have hr:Hid (rt=!s2):=DB (by rw [hrt.out,hi,decide_eq_true h3];rfl);rw [hi] at PI;replace PI:=DB PI;go_enter Tryz.func183,Tryz.ntmps183
    go_wp2_with (first | (go_at_call 199;(with_reducible refine (P1.out _ (GW.out _ hB)).mono ?_);rintro e w4 ⟨rfl,hb4⟩;have r4:=bh.out.keep hb4;have g0:=r4.c0;have g1:=r4.c1;have g2:=r4.c2;have g3:=r4.c3;have B4:=d_ hB hb4) | (go_at_call 199;(with_reducible refine (P2.out _ (G5.out _ B4)).mono ?_);rintro e w5 ⟨rfl,hb5⟩;have r5:=r4.keep hb5;have k0:=r5.c0;have k1:=r5.c1;have k2:=r5.c2;have k3:=r5.c3;have B5:=d_ B4 hb5) | (go_at_call 28;(with_reducible refine (PI.out _).mono ?_);rintro e w6 ⟨rfl,rfl⟩))
    go_ret;exact ⟨by rw [hr.out] <;> rfl,B5⟩
   have hd:decide ((lx:Int)<=80)=false:=decide_eq_false (by omega);have hr:=DB (hf1.out h3);go_enter Tryz.func183,Tryz.ntmps183
   go_wp2_with (first | (go_at_call 199;(with_reducible refine (P1.out _ (GW.out _ hB)).mono ?_);rintro e w4 ⟨rfl,hb4⟩;have r4:=bh.out.keep hb4;have g0:=r4.c0;have g1:=r4.c1;have g2:=r4.c2;have g3:=r4.c3;have B4:=d_ hB hb4) | (go_at_call 199;(with_reducible refine (P2.out _ (G5.out _ B4)).mono ?_);rintro e w5 ⟨rfl,hb5⟩;have r5:=r4.keep hb5;have k0:=r5.c0;have k1:=r5.c1;have k2:=r5.c2;have k3:=r5.c3;have B5:=d_ B4 hb5))
   go_ret;exact ⟨by rw [hr.out] <;> rfl,B5⟩
  rw [decide_eq_false h2] at P2;replace P2:=DB P2;have hr:=DB (hf2.out (by omega));go_enter Tryz.func183,Tryz.ntmps183
  go_wp2_with (first | (go_at_call 199;(with_reducible refine (P1.out _ (GW.out _ hB)).mono ?_);rintro e w4 ⟨rfl,hb4⟩;have r4:=bh.out.keep hb4;have g0:=r4.c0;have g1:=r4.c1;have g2:=r4.c2;have g3:=r4.c3;have B4:=d_ hB hb4) | (go_at_call 199;(with_reducible refine (P2.out _ (G5.out _ B4)).mono ?_);rintro e w5 ⟨rfl,hb5⟩;have r5:=r4.keep hb5;have k0:=r5.c0;have k1:=r5.c1;have k2:=r5.c2;have k3:=r5.c3;have B5:=d_ B4 hb5))
  go_ret;exact ⟨by rw [hr.out] <;> rfl,B5⟩
 rw [decide_eq_false h1] at P1;replace P1:=DB P1;have hr:=DB (hf1.out (by omega));go_enter Tryz.func183,Tryz.ntmps183
 go_wp2_with (first | (go_at_call 199;(with_reducible refine (P1.out _ (GW.out _ hB)).mono ?_);rintro e w4 ⟨rfl,hb4⟩;have r4:=bh.out.keep hb4;have g0:=r4.c0;have g1:=r4.c1;have g2:=r4.c2;have g3:=r4.c3;have B4:=d_ hB hb4))
 go_ret;exact ⟨by rw [hr.out] <;> rfl,B4⟩
theorem qr (x z:Int) (vx vz:Value) (w:World) (bx bz:Nat) (hox:ae w bx vx x) (Dl:ae w bz vz z) (hl1:(Wh.a_ x.natAbs).length<=100000) (hl2:(Wh.a_ z.natAbs).length<=100000) :
  Calls Tryz.prog 195 #[.agg #[decide (x<0),vx,decide (z<0),vz]] w fun e w'=>e=.returned (.bool (Wh.dQ x z))/\Below w.heap.size w w':=by
 obtain ⟨ax,cx,rfl,-,-⟩:=aF.view hox;obtain ⟨az,cz,rfl,-,-⟩:=aF.view Dl
 have P1:=fun W (h:aF W bx (.slice ax (Wh.a_ x.natAbs).length cx) (Wh.a_ x.natAbs))=>pR x (.slice ax (Wh.a_ x.natAbs).length cx) W bx h hl1
 have P2:=fun W (h:aF W bz (.slice az (Wh.a_ z.natAbs).length cz) (Wh.a_ z.natAbs))=>pR z (.slice az (Wh.a_ z.natAbs).length cz) W bz h hl2
 have GW:Hid (∀ W,Below w.heap.size w W->aF W bx (.slice ax (Wh.a_ x.natAbs).length cx) (Wh.a_ x.natAbs)):=DB fun W h=>aF.below hox h
 have G5:Hid (∀ W,Below w.heap.size w W->aF W bz (.slice az (Wh.a_ z.natAbs).length cz) (Wh.a_ z.natAbs)):=DB fun W h=>aF.below Dl h
 have hf1:=DB fun h=>Wh.qU (x:=x) (z:=z) h
 have hf2:=DB fun h=>Wh.qV (x:=x) (z:=z) h
 have hrt:Hid (Wh.dQ x z=((decide ((Wh.a_ x.natAbs).length<=80) && M.ins (Wh.a_ z.natAbs).length 1 80) && !decide (z<0))):=DB rfl;clear hox Dl;generalize Wh.a_ z.natAbs=zs,Wh.a_ x.natAbs=xs,decide (z<0)=s2,decide (x<0)=s1,Wh.dQ x z=rt at *;generalize zs.length=lz,xs.length=lx at *;have b1:=jJ.new w (.bool s1) (.slice ax lx cx) (.bool s2) (.slice az lz cz) 174;have hB:=(DE w.heap.size w).alloc (DF _) (.cells #[s1,.slice ax lx cx,s2,.slice az lz cz] 174);generalize hw3:w.alloc (.cells #[s1,.slice ax lx cx,s2,.slice az lz cz] 174)=w3 at *;have e0:=b1.c0;have e1:=b1.c1;have e2:=b1.c2;have e3:=b1.c3;have bh:=DB b1;clear b1
 by_cases h1:lx<=400
 ·rw [decide_eq_true h1] at P1
  replace P1:=DB P1
  by_cases h2:lz<=400
  ·rw [decide_eq_true h2] at P2
   replace P2:=DB P2
   by_cases h3:lx<=80
   ·have hd:decide ((lx:Int)<=80)=true:=decide_eq_true (by omega)
    have PI:=fun W=>dl (lz:Int) 1 80 W
    cases hi:M.ins (lz:Int) 1 80
    ·have hr:Hid (rt=false):=DB (by rw [hrt.out,hi,Bool.and_false];rfl)
     rw [hi] at PI;replace PI:=DB PI;go_enter Tryz.func195,Tryz.ntmps195
     go_wp2_with (first | (go_at_call 203;(with_reducible refine (P1.out _ (GW.out _ hB)).mono ?_);rintro e w4 ⟨rfl,hb4⟩;have r4:=bh.out.keep hb4;have g0:=r4.c0;have g1:=r4.c1;have g2:=r4.c2;have g3:=r4.c3;have B4:=d_ hB hb4) | (go_at_call 203;(with_reducible refine (P2.out _ (G5.out _ B4)).mono ?_);rintro e w5 ⟨rfl,hb5⟩;have r5:=r4.keep hb5;have k0:=r5.c0;have k1:=r5.c1;have k2:=r5.c2;have k3:=r5.c3;have B5:=d_ B4 hb5) | (go_at_call 35;(with_reducible refine (PI.out _).mono ?_);rintro e w6 ⟨rfl,rfl⟩))
     go_ret;exact ⟨by rw [hr.out] <;> rfl,B5⟩
    have hr:Hid (rt=!s2):=DB (by rw [hrt.out,hi,decide_eq_true h3];rfl);rw [hi] at PI;replace PI:=DB PI;go_enter Tryz.func195,Tryz.ntmps195
    go_wp2_with (first | (go_at_call 203;(with_reducible refine (P1.out _ (GW.out _ hB)).mono ?_);rintro e w4 ⟨rfl,hb4⟩;have r4:=bh.out.keep hb4;have g0:=r4.c0;have g1:=r4.c1;have g2:=r4.c2;have g3:=r4.c3;have B4:=d_ hB hb4) | (go_at_call 203;(with_reducible refine (P2.out _ (G5.out _ B4)).mono ?_);rintro e w5 ⟨rfl,hb5⟩;have r5:=r4.keep hb5;have k0:=r5.c0;have k1:=r5.c1;have k2:=r5.c2;have k3:=r5.c3;have B5:=d_ B4 hb5) | (go_at_call 35;(with_reducible refine (PI.out _).mono ?_);rintro e w6 ⟨rfl,rfl⟩))
    go_ret;exact ⟨by rw [hr.out] <;> rfl,B5⟩
   have hd:decide ((lx:Int)<=80)=false:=decide_eq_false (by omega);have hr:=DB (hf1.out h3);go_enter Tryz.func195,Tryz.ntmps195
   go_wp2_with (first | (go_at_call 203;(with_reducible refine (P1.out _ (GW.out _ hB)).mono ?_);rintro e w4 ⟨rfl,hb4⟩;have r4:=bh.out.keep hb4;have g0:=r4.c0;have g1:=r4.c1;have g2:=r4.c2;have g3:=r4.c3;have B4:=d_ hB hb4) | (go_at_call 203;(with_reducible refine (P2.out _ (G5.out _ B4)).mono ?_);rintro e w5 ⟨rfl,hb5⟩;have r5:=r4.keep hb5;have k0:=r5.c0;have k1:=r5.c1;have k2:=r5.c2;have k3:=r5.c3;have B5:=d_ B4 hb5))
   go_ret;exact ⟨by rw [hr.out] <;> rfl,B5⟩
  rw [decide_eq_false h2] at P2;replace P2:=DB P2;have hr:=DB (hf2.out (by omega));go_enter Tryz.func195,Tryz.ntmps195
  go_wp2_with (first | (go_at_call 203;(with_reducible refine (P1.out _ (GW.out _ hB)).mono ?_);rintro e w4 ⟨rfl,hb4⟩;have r4:=bh.out.keep hb4;have g0:=r4.c0;have g1:=r4.c1;have g2:=r4.c2;have g3:=r4.c3;have B4:=d_ hB hb4) | (go_at_call 203;(with_reducible refine (P2.out _ (G5.out _ B4)).mono ?_);rintro e w5 ⟨rfl,hb5⟩;have r5:=r4.keep hb5;have k0:=r5.c0;have k1:=r5.c1;have k2:=r5.c2;have k3:=r5.c3;have B5:=d_ B4 hb5))
  go_ret;exact ⟨by rw [hr.out] <;> rfl,B5⟩
 rw [decide_eq_false h1] at P1;replace P1:=DB P1;have hr:=DB (hf1.out (by omega));go_enter Tryz.func195,Tryz.ntmps195
 go_wp2_with (first | (go_at_call 203;(with_reducible refine (P1.out _ (GW.out _ hB)).mono ?_);rintro e w4 ⟨rfl,hb4⟩;have r4:=bh.out.keep hb4;have g0:=r4.c0;have g1:=r4.c1;have g2:=r4.c2;have g3:=r4.c3;have B4:=d_ hB hb4))
 go_ret;exact ⟨by rw [hr.out] <;> rfl,B4⟩
def bk (w:World) (g:Nat) (zs:List Int):Prop:=
 ∀ (k:Nat) (z:Int),zs[k]?=some z->∃ (a:Option Addr) (cap:Nat),w.cell? ⟨g,k*2,none⟩=some (.bool (decide (z<0)))/\w.cell? ⟨g,k*2+1,none⟩=some (.slice a (Wh.a_ z.natAbs).length cap)/\aF w 0 (.slice a (Wh.a_ z.natAbs).length cap) (Wh.a_ z.natAbs)
theorem bk.below {w w':World} {g:Nat} {zs:List Int} (h:bk w g zs) (hb:Below w.heap.size w w'):bk w' g zs:=fun k z hz=>by
 obtain ⟨a,cap,h1,h2,h3⟩:=h k z hz;exact ⟨a,cap,aE hb h1,aE hb h2,aF.below h3 hb⟩
def Wh.small (z:Int):Prop:=(a_ z.natAbs).length<=9000
theorem jx (zs:List Int) (g cap:Nat) (w:World) (hw:bk w g zs) (hl:zs.length<=100) (hs1:∀ z ∈ zs,Wh.small z) (hs2:∀ k,Wh.small ((zs.take k).foldl (·+·) 0)) :
  Calls Tryz.prog 178 #[.slice (some ⟨g,0,none⟩) zs.length cap] w fun e w'=>∃ sl,e=.returned (.agg #[decide (zs.foldl (·+·) 0<0),sl])/\ae w' w.heap.size sl (zs.foldl (·+·) 0)/\Below w.heap.size w w':=by
 obtain ⟨T,hT⟩:∃ T,Hid (zs.foldl (·+·) 0=T):=⟨_,DB rfl⟩
 rw [hT.out]
 obtain ⟨sT,Ja⟩:∃ s,Hid (decide (T<0)=s):=⟨_,DB rfl⟩
 rw [Ja.out];have hw:=DB hw;have hs1:=DB hs1;have hs2:=DB hs2;have b3:=(ay.new w (.bool false) (.slice none 0 0) 116).alloc (.cells #[false,.slice none 0 0] 116);have b4:=ay.new2 w (.cells #[false,.slice none 0 0] 116) (.bool false) (.slice none 0 0) 116;have hB:=((DE w.heap.size w).alloc (DF _) (.cells #[false,.slice none 0 0] 116)).alloc (by rw [DC];omega) (.cells #[false,.slice none 0 0] 116);generalize hw3:(w.alloc (.cells #[false,.slice none 0 0] 116)).alloc (.cells #[false,.slice none 0 0] 116)=w3 at *;have e0:=b4.c0;have e1:=b4.c1;have e2:=b4.f0;have e3:=b4.f1;go_enter Tryz.func178,Tryz.ntmps178
 go_wp2;have q4:=b4.store (.bool false) (.slice none 0 0);have q3:=b3.other (c:=w.heap.size+1) (by omega) (.bool false) (.slice none 0 0);have qB:=(hB.setCell (p:=⟨w.heap.size+1,0,none⟩) (Nat.le_succ _) (.bool false)).setCell (p:=⟨w.heap.size+1,1,none⟩) (Nat.le_succ _) (.slice none 0 0);clear e0 e1 e2 e3
 go_loopw [9] (fun vi wr=>∃ (k:Nat) (a:Option Addr) (cx:Nat),k<=zs.length/\vi=.int .i64 k/\Hid (ay wr (w.heap.size+1) (.bool (decide ((zs.take k).foldl (·+·) 0<0))) (.slice a (Wh.a_ ((zs.take k).foldl (·+·) 0).natAbs).length cx))/\Hid (ay wr w.heap.size (.bool false) (.slice none 0 0))/\aF wr (w.heap.size+2) (.slice a (Wh.a_ ((zs.take k).foldl (·+·) 0).natAbs).length cx) (Wh.a_ ((zs.take k).foldl (·+·) 0).natAbs)/\Below w.heap.size w wr) (fun vi _=>zs.length - (intOf vi).toNat)
 case atStart=>exact ⟨0,none,0,Nat.zero_le _,rfl,by simpa [Wh.cj] using DB q4,DB q3,by simpa [Wh.cj] using aF.nil _ _,qB⟩
 case round=>
 clear b3 b4 hB q3 q4 qB;obtain ⟨k,a,cx,hk,rfl,Dr,Fh,hown,hbr⟩:=hrel;have c0:=Dr.out.c0;have c1:=Dr.out.c1;have f0:=Dr.out.f0;have f1:=Dr.out.f1;have z0:=Dr.out.size
 by_cases hlt:k<zs.length
 ·obtain ⟨z,hz⟩:∃ z,zs[k]?=some z:=⟨_,List.getElem?_eq_getElem hlt⟩
  obtain ⟨az,cz,d0,d1,d2⟩:=(hw.out.below hbr) k z hz;have hA:=hs2.out k;have hA2:=hs2.out (k+1);have hzs:=hs1.out z (List.mem_of_getElem? hz)
  have hnx:(zs.take (k+1)).foldl (·+·) 0=(zs.take k).foldl (·+·) 0+z:=by rw [List.take_add_one,hz,List.foldl_append];rfl
  rw [hnx] at hA2;have hnx:=DB hnx;have g0:=Fh.out.size;clear hz;generalize (zs.take k).foldl (·+·) 0=A at *;unfold Wh.small at hA hA2 hzs
  have PA:=fun W b1 b2 (h1:aF W b1 (.slice a (Wh.a_ A.natAbs).length cx) (Wh.a_ A.natAbs)) (h2:aF W b2 (.slice az (Wh.a_ z.natAbs).length cz) (Wh.a_ z.natAbs))=>gR A z (.slice a (Wh.a_ A.natAbs).length cx) (.slice az (Wh.a_ z.natAbs).length cz) W b1 b2 h1 h2 (by omega) (by omega)
  generalize A+z=B,decide (z<0)=sz,decide (A<0)=sA at *;generalize hsB:decide (B<0)=sB at *;generalize Wh.a_ z.natAbs=ys,Wh.a_ A.natAbs=xs at *;generalize ys.length=l2,xs.length=l1 at *;replace PA:=DB PA;have ho2:=aF.alloc hown (.cells #[sz,.slice az l2 cz] 116);have hz2:=aF.alloc d2 (.cells #[sz,.slice az l2 cz] 116)
  have bA:=(Dr.out.alloc (.cells #[sz,.slice az l2 cz] 116))
  have bZ:=(Fh.out.alloc (.cells #[sz,.slice az l2 cz] 116))
  have hB2:=hbr.alloc hbr.size (.cells #[sz,.slice az l2 cz] 116);have hza:(wr.alloc (.cells #[sz,.slice az l2 cz] 116)).heap.size=wr.heap.size+1:=DC _ _;clear d2 hown
  go_wp2_with (go_at_call 89;(with_reducible refine (PA.out _ _ _ ho2 hz2).mono ?_);rintro e w5 ⟨v5,rfl,Dw,hb5⟩;obtain ⟨a5,cap5,rfl,H6,hv5⟩:=aF.view Dw;have r5:=bA.keep hb5;have k0:=r5.c0;have k1:=r5.c1;have k2:=r5.f0;have k3:=r5.f1;have t5:=bZ.keep hb5;clear hv5 H6)
  have Dp:=aF.past (aF.base (base':=w.heap.size+2) Dw (by omega)) (Nat.lt_succ_self (w.heap.size+1)) (.bool sB) (.slice a5 (Wh.a_ B.natAbs).length cap5);have O8:=((d_ hB2 hb5).setCell (p:=⟨w.heap.size+1,0,none⟩) (Nat.le_succ _) (.bool sB)).setCell (p:=⟨w.heap.size+1,1,none⟩) (Nat.le_succ _) (.slice a5 (Wh.a_ B.natAbs).length cap5);have q4:=r5.store (.bool sB) (.slice a5 (Wh.a_ B.natAbs).length cap5);have q3:=t5.other (c:=w.heap.size+1) (by omega) (.bool sB) (.slice a5 (Wh.a_ B.natAbs).length cap5)
  go_roundw
  case rel=>exact ⟨k+1,a5,cap5,by omega,by go_num,by rw [hnx.out,hsB];exact DB q4,DB q3,by rw [hnx.out];exact Dp,O8⟩
  case measure=>simp [intOf];omega
 obtain rfl:k=zs.length:=by omega
 rw [List.take_length] at *;have g0:=Fh.out.c0;have g1:=Fh.out.c1;have g2:=Fh.out.f0;have g3:=Fh.out.f1;have hr:=cL (w:=w) w.heap.size _ (.bool sT) (DF _) (by omega) hown hbr;rw [hT.out] at hr c0 c1;rw [Ja.out] at c0;generalize (Wh.a_ T.natAbs).length=D2 at *;clear hw hs1 hs2 hown Dr;go_wp2;exact bodyPost_ret (v:=.agg #[sT,.slice a D2 cx]) (by simp [results,Tryz.results178,go_sem, *]) rfl (⟨_,rfl,hr.1,hr.2⟩)
theorem bR (zs:List Int) (g cap:Nat) (w:World) (hw:bk w g zs) (hl:zs.length<=100) (hs1:∀ z ∈ zs,Wh.small z) (hs2:∀ k,Wh.small ((zs.take k).foldl (·*·) 1)) :
  Calls Tryz.prog 179 #[.slice (some ⟨g,0,none⟩) zs.length cap] w fun e w'=>∃ sl,e=.returned (.agg #[decide (zs.foldl (·*·) 1<0),sl])/\ae w' w.heap.size sl (zs.foldl (·*·) 1)/\Below w.heap.size w w':=by
 obtain ⟨T,hT⟩:∃ T,Hid (zs.foldl (·*·) 1=T):=⟨_,DB rfl⟩
 rw [hT.out]
 obtain ⟨sT,Ja⟩:∃ s,Hid (decide (T<0)=s):=⟨_,DB rfl⟩
 rw [Ja.out];replace hw:=DB hw;replace hs1:=DB hs1;replace hs2:=DB hs2;have b3:=ay.new w (.bool false) (.slice none 0 0) 116;have hB:=(DE w.heap.size w).alloc (DF _) (.cells #[false,.slice none 0 0] 116);generalize hw3:w.alloc (.cells #[false,.slice none 0 0] 116)=w3 at *
 have PW:=fun W=>bX 1 W (by omega) (by omega)
 rw [decide_eq_false (show ¬ (1:Int)<0 by decide)] at PW;replace PW:=DB PW;have hz3:=b3.size;go_enter Tryz.func179,Tryz.ntmps179
 go_wp2_with (go_at_call 88;(with_reducible refine (PW.out _).mono ?_);rintro e w5 ⟨v5,rfl,Dw,hb5⟩;obtain ⟨a5,cap5,rfl,H6,hv5⟩:=aF.view Dw;clear hv5 H6)
 have q4:=ay.new w5 (.bool false) (.slice a5 (Wh.a_ (1:Int).natAbs).length cap5) 116;have q3:=(b3.keep hb5).alloc (.cells #[false,.slice a5 (Wh.a_ (1:Int).natAbs).length cap5] 116);have B5:=d_ hB hb5;have qB:=B5.alloc B5.size (.cells #[false,.slice a5 (Wh.a_ (1:Int).natAbs).length cap5] 116);have qo:=aF.base (base':=w.heap.size+1) (aF.alloc Dw (.cells #[false,.slice a5 (Wh.a_ (1:Int).natAbs).length cap5] 116)) (by omega)
 have ne:(Value.slice a5 (Wh.a_ (1:Int).natAbs).length cap5).ownBlock≠some w5.heap.size:=fun e=>by
  have:=(aF.lt Dw _ e).2;omega
 have hzc:w.heap.size<w5.heap.size:=by have:=hb5.size;omega
 generalize hC:w5.heap.size=C at q4 ne hzc ⊢;clear Dw b3 hb5 B5
 go_loopw [9] (fun vi wr=>∃ (k:Nat) (a:Option Addr) (cx:Nat),k<=zs.length/\vi=.int .i64 k/\Hid (ay wr C (.bool (decide ((zs.take k).foldl (·*·) 1<0))) (.slice a (Wh.a_ ((zs.take k).foldl (·*·) 1).natAbs).length cx))/\Hid (ay wr w.heap.size (.bool false) (.slice none 0 0))/\aF wr (w.heap.size+1) (.slice a (Wh.a_ ((zs.take k).foldl (·*·) 1).natAbs).length cx) (Wh.a_ ((zs.take k).foldl (·*·) 1).natAbs)/\Hid ((Value.slice a (Wh.a_ ((zs.take k).foldl (·*·) 1).natAbs).length cx).ownBlock≠some C)/\Below w.heap.size w wr) (fun vi _=>zs.length - (intOf vi).toNat)
 case atStart=>exact ⟨0,a5,cap5,Nat.zero_le _,rfl,DB q4,DB q3,qo,DB ne,qB⟩
 case round=>
 clear hB q3 q4 qB qo ne;obtain ⟨k,a,cx,hk,rfl,Dr,Fh,hown,hne,hbr⟩:=hrel;have c0:=Dr.out.c0;have c1:=Dr.out.c1;have f0:=Dr.out.f0;have f1:=Dr.out.f1;have z0:=Dr.out.size
 by_cases hlt:k<zs.length
 ·obtain ⟨z,hz⟩:∃ z,zs[k]?=some z:=⟨_,List.getElem?_eq_getElem hlt⟩
  obtain ⟨az,cz,d0,d1,d2⟩:=(hw.out.below hbr) k z hz;have hA:=hs2.out k;have hA2:=hs2.out (k+1);have hzs:=hs1.out z (List.mem_of_getElem? hz)
  have hnx:(zs.take (k+1)).foldl (·*·) 1=(zs.take k).foldl (·*·) 1*z:=by rw [List.take_add_one,hz,List.foldl_append];rfl
  rw [hnx] at hA2;have hnx:=DB hnx;have g0:=Fh.out.size;clear hz;generalize (zs.take k).foldl (·*·) 1=A at *;unfold Wh.small at hA hA2 hzs
  have PA:=fun W b1 b2 (h1:aF W b1 (.slice a (Wh.a_ A.natAbs).length cx) (Wh.a_ A.natAbs)) (h2:aF W b2 (.slice az (Wh.a_ z.natAbs).length cz) (Wh.a_ z.natAbs))=>cn A z (.slice a (Wh.a_ A.natAbs).length cx) (.slice az (Wh.a_ z.natAbs).length cz) W b1 b2 h1 h2 (by omega) (by omega)
  generalize A*z=B,decide (z<0)=sz,decide (A<0)=sA at *;generalize hsB:decide (B<0)=sB at *;generalize Wh.a_ z.natAbs=ys,Wh.a_ A.natAbs=xs at *;generalize ys.length=l2,xs.length=l1 at *;replace PA:=DB PA;have ho2:=aF.alloc hown (.cells #[sz,.slice az l2 cz] 116);have hz2:=aF.alloc d2 (.cells #[sz,.slice az l2 cz] 116)
  have bA:=(Dr.out.alloc (.cells #[sz,.slice az l2 cz] 116))
  have bZ:=(Fh.out.alloc (.cells #[sz,.slice az l2 cz] 116))
  have hB2:=hbr.alloc hbr.size (.cells #[sz,.slice az l2 cz] 116);have hza:(wr.alloc (.cells #[sz,.slice az l2 cz] 116)).heap.size=wr.heap.size+1:=DC _ _;clear d2 hown
  go_wp2_with (go_at_call 87;(with_reducible refine (PA.out _ _ _ ho2 hz2).mono ?_);rintro e w6 ⟨v6,rfl,IY,hb6⟩;obtain ⟨a6,cap6,rfl,QG,hv6⟩:=aF.view IY;have r5:=bA.keep hb6;have k0:=r5.c0;have k1:=r5.c1;have k2:=r5.f0;have k3:=r5.f1;have t5:=bZ.keep hb6;clear hv6 QG)
  have ne6:(Value.slice a6 (Wh.a_ B.natAbs).length cap6).ownBlock≠some C:=fun e=>by
   have:=(aF.lt IY _ e).1;omega
  have Dp:=fun u v=>World.ownsRow.kept (aF.base (base':=w.heap.size+1) IY (by omega)) (cO w6 C u v) (Or.inr ne6)
  have O8:=((d_ hB2 hb6).setCell (p:=⟨C,0,none⟩) (Nat.le_of_lt hzc) (.bool sB)).setCell (p:=⟨C,1,none⟩) (Nat.le_of_lt hzc) (.slice a6 (Wh.a_ B.natAbs).length cap6);have q4:=r5.store (.bool sB) (.slice a6 (Wh.a_ B.natAbs).length cap6);have q3:=t5.other (c:=C) (by omega) (.bool sB) (.slice a6 (Wh.a_ B.natAbs).length cap6)
  go_roundw
  case rel=>exact ⟨k+1,a6,cap6,by omega,by go_num,by rw [hnx.out,hsB];exact DB q4,DB q3,by rw [hnx.out];exact Dp _ _,by rw [hnx.out];exact DB ne6,O8⟩
  case measure=>simp [intOf];omega
 obtain rfl:k=zs.length:=by omega
 rw [List.take_length] at *;have g0:=Fh.out.c0;have g1:=Fh.out.c1;have g2:=Fh.out.f0;have g3:=Fh.out.f1;have hr:=cL (w:=w) w.heap.size _ (.bool sT) (DF _) (by omega) hown hbr;rw [hT.out] at hr c0 c1;rw [Ja.out] at c0;generalize (Wh.a_ T.natAbs).length=D2 at *;clear hw hs1 hs2 hown Dr hne;go_wp2;exact bodyPost_ret (v:=.agg #[sT,.slice a D2 cx]) (by simp [results,Tryz.results179,go_sem, *]) rfl (⟨_,rfl,hr.1,hr.2⟩)
end
section
namespace Wh
def sz (z:Int) (n:Nat):Prop:=z.natAbs<10000 ^ n
theorem aU {z:Int} {n:Nat}:(a_ z.natAbs).length<=n ↔ sz z n:=by
 constructor
 ·intro h
  have h1:=jN h;have h2:((10000 ^ n:Nat):Int)=(10000:Int) ^ n:=Int.natCast_pow 10000 n;unfold sz;generalize (10000:Int) ^ n=P at *;generalize 10000 ^ n=Q at *;omega
 intro h;exact dL h
theorem aM {z:Int} {m n:Nat} (h:sz z m) (hmn:m<=n):sz z n:=Nat.lt_of_lt_of_le h (Nat.pow_le_pow_right (by decide) hmn)
theorem ak {x y:Int} {m n:Nat} (hx:sz x m) (hy:sz y n):sz (x*y) (m+n):=by
 unfold sz at *;rw [Int.natAbs_mul,Nat.pow_add];exact Nat.mul_lt_mul'' hx hy
theorem gp {x y:Int} {n:Nat} (hx:sz x n) (hy:sz y n):sz (x+y) (n+1):=by
 unfold sz at *;rw [Nat.pow_succ];have:=Int.natAbs_add_le x y;have hp:0<10000 ^ n:=Nat.pow_pos (by decide);omega
theorem jh {x:Int} {n:Nat} (hx:sz x n):sz (-x) n:=by unfold sz at *;rwa [Int.natAbs_neg]
theorem pF {x y:Int} {n:Nat} (hx:sz x n) (hy:sz y n):sz (x - y) (n+1):=by
 rw [Int.sub_eq_add_neg];exact gp hx (jh hy)
theorem cE {z:Int} {n:Nat} (h:sz z n) (hn:n<=9000):small z:=Nat.le_trans (aU.2 h) hn
theorem yG:sz 1 1:=by unfold sz;decide
theorem AB:sz 0 1:=by unfold sz;decide
theorem bP {n:Int} (h1:-1000000000000000000<=n) (h2:n<=1000000000000000000):sz n 5:=by
 unfold sz
 have:(10000:Nat) ^ 5=100000000000000000000:=by decide
 omega
theorem tU:∀ (zs:List Int) (m:Nat),(∀ z ∈ zs,sz z m)->∀ (a:Int) (n:Nat),sz a n->sz (zs.foldl (·*·) a) (n+zs.length*m)
 | [],m,_,a,n,h=>by simpa using h
 | z :: zs,m,hz,a,n,h=>by
  rw [List.foldl_cons,List.length_cons,show n+(zs.length+1)*m=(n+m)+zs.length*m by rw [Nat.succ_mul];omega];exact tU zs m (fun y hy=>hz y (List.mem_cons_of_mem _ hy)) _ _ (ak h (hz z List.mem_cons_self))
theorem jG {zs:List Int} {m:Nat} (h:∀ z ∈ zs,sz z m) (k:Nat):sz ((zs.take k).foldl (·*·) 1) (1+zs.length*m):=by
 have:=tU (zs.take k) m (fun z hz=>h z (List.mem_of_mem_take hz)) 1 1 yG;refine aM this ?_
 have:(zs.take k).length<=zs.length:=by rw [List.length_take];omega
 have:=Nat.mul_le_mul_right m this;omega
theorem yH:∀ (zs:List Int) (m:Nat),(∀ z ∈ zs,sz z m)->∀ (a:Int) (n:Nat),m<=n->sz a n->sz (zs.foldl (·+·) a) (n+zs.length)
 | [],m,_,a,n,_,h=>by simpa using h
 | z :: zs,m,hz,a,n,hmn,h=>by
  rw [List.foldl_cons,List.length_cons,show n+(zs.length+1)=(n+1)+zs.length by omega];exact yH zs m (fun y hy=>hz y (List.mem_cons_of_mem _ hy)) _ _ (by omega) (gp h (aM (hz z List.mem_cons_self) hmn))
theorem pG {zs:List Int} {m:Nat} (h:∀ z ∈ zs,sz z m) (hm:1<=m) (k:Nat):sz ((zs.take k).foldl (·+·) 0) (m+zs.length):=by
 have:=yH (zs.take k) m (fun z hz=>h z (List.mem_of_mem_take hz)) 0 m (DF _) (aM AB hm);refine aM this ?_
 have:(zs.take k).length<=zs.length:=by rw [List.length_take];omega
 omega
def am (a b x z:Int):Int:=x*x*x*x - 2*a*x*x*z*z - 8*b*x*z*z*z+a*a*z*z*z*z
def af (a b x z:Int):Int:=4*z*(x*x*x+a*x*z*z+b*z*z*z)
theorem um (a b x z:Int):[[x,x,x,x].foldl (·*·) 1,[-2*a,x,x,z,z].foldl (·*·) 1,[-8*b,x,z,z,z].foldl (·*·) 1,[a*a,z,z,z,z].foldl (·*·) 1].foldl (·+·) 0=am a b x z:=by
 simp only [List.foldl_cons,List.foldl_nil];unfold am
 grind
theorem qf (a b x z:Int):((x*x*(x*x) - x*x*(z*z)*(2*a)) - x*z*(z*z)*(8*b))+z*z*(z*z)*(a*a)=am a b x z:=by
 unfold am
 grind
theorem tj (a b x z:Int):[4,z,[[x,x,x].foldl (·*·) 1,[a,x,z,z].foldl (·*·) 1,[b,z,z,z].foldl (·*·) 1].foldl (·+·) 0].foldl (·*·) 1=af a b x z:=by
 simp only [List.foldl_cons,List.foldl_nil];unfold af
 grind
theorem pU (a b x z:Int):z*(x*x*x+x*(z*z)*a+z*(z*z)*b)*4=af a b x z:=by
 unfold af
 grind
end Wh
end
section
open Go.RowKit
theorem dp (a:Int) (va:Value) (w:World) (ba:Nat) (hoa:ae w ba va a) (hl1:(Wh.a_ a.natAbs).length<=10000) :
  Calls Tryz.prog 187 #[.agg #[decide (a<0),va]] w fun e w'=>∃ sl,e=.returned (.agg #[decide (a*a<0),sl])/\ae w' w.heap.size sl (a*a)/\Below w.heap.size w w':=by
 obtain ⟨aa,j_,rfl,-,-⟩:=aF.view hoa
 have PA:=fun W (h1:aF W ba (.slice aa (Wh.a_ a.natAbs).length j_) (Wh.a_ a.natAbs))=>eJ a a (.slice aa (Wh.a_ a.natAbs).length j_) (.slice aa (Wh.a_ a.natAbs).length j_) W ba ba h1 h1 hl1 hl1
 replace hoa:=DB (show aF _ _ _ _ from hoa);generalize Wh.a_ a.natAbs=xs,a*a=z,decide (a<0)=s1 at *;generalize decide (z<0)=s,xs.length=l1 at *;replace PA:=DB PA;have n1:=(ay.new w (.bool s1) (.slice aa l1 j_) 116).alloc (.cells #[false,.slice none 0 0] 116);have n3:=ay.new2 w (.cells #[s1,.slice aa l1 j_] 116) (.bool false) (.slice none 0 0) 116;have Bn:=((DE w.heap.size w).alloc (DF _) (.cells #[s1,.slice aa l1 j_] 116)).alloc (by rw [DC];omega) (.cells #[false,.slice none 0 0] 116);have ho3:=aF.alloc (aF.alloc hoa.out (.cells #[s1,.slice aa l1 j_] 116)) (.cells #[false,.slice none 0 0] 116);generalize hw3:(w.alloc (.cells #[s1,.slice aa l1 j_] 116)).alloc (.cells #[false,.slice none 0 0] 116)=w3 at *;have e1:=n1.c0;have e2:=n1.c1;go_enter Tryz.func187,Tryz.ntmps187
 go_wp2_with (go_at_call 189;(with_reducible refine (PA.out _ ho3).mono ?_);rintro e w5 ⟨vc,rfl,hoc,hbc⟩;obtain ⟨ac,x_,rfl,hmc,Dd⟩:=aF.view hoc;have r5:=n3.keep hbc;have c0:=r5.c0;have c1:=r5.c1;have g0:=r5.f0;have g1:=r5.f1;clear Dd hmc)
 have hr:=cL (w:=w) (w.heap.size+1) _ (.bool s) (by omega) n3.size hoc (d_ Bn hbc);generalize (Wh.a_ z.natAbs).length=D2 at *;exact bodyPost_ret (v:=.agg #[s,.slice ac D2 x_]) (by simp [results,Tryz.results187,go_sem, *]) rfl (⟨_,rfl,hr.1,hr.2⟩)
theorem yS (x z:Int) (vx vz:Value) (w:World) (bx bz:Nat) (hox:ae w bx vx x) (Dl:ae w bz vz z) (hl1:(Wh.a_ x.natAbs).length<=9000) (hl2:(Wh.a_ z.natAbs).length<=9000) (hb1:Wh.bl x.natAbs<=1000000) (hb2:Wh.bl z.natAbs<=1000000) :
  Calls Tryz.prog 163 #[.agg #[decide (x<0),vx,decide (z<0),vz]] w fun e w'=>e=.returned (.int .i64 (max (Wh.bl x.natAbs:Nat) (Wh.bl z.natAbs:Nat):Int))/\Below w.heap.size w w':=by
 obtain ⟨ax,cx,rfl,-,-⟩:=aF.view hox;obtain ⟨az,cz,rfl,-,-⟩:=aF.view Dl
 have P1:=fun W (h:aF W bx (.slice ax (Wh.a_ x.natAbs).length cx) (Wh.a_ x.natAbs))=>kj x (.slice ax (Wh.a_ x.natAbs).length cx) W bx h hl1 hb1
 have P2:=fun W (h:aF W bz (.slice az (Wh.a_ z.natAbs).length cz) (Wh.a_ z.natAbs))=>kj z (.slice az (Wh.a_ z.natAbs).length cz) W bz h hl2 hb2
 have PM:=fun W=>d6 (Wh.bl x.natAbs:Int) (Wh.bl z.natAbs:Int) W
 have GW:Hid (∀ W,Below w.heap.size w W->aF W bx (.slice ax (Wh.a_ x.natAbs).length cx) (Wh.a_ x.natAbs)):=DB fun W h=>aF.below hox h
 have G5:Hid (∀ W,Below w.heap.size w W->aF W bz (.slice az (Wh.a_ z.natAbs).length cz) (Wh.a_ z.natAbs)):=DB fun W h=>aF.below Dl h
 clear hox Dl;generalize max (Wh.bl x.natAbs:Int) (Wh.bl z.natAbs:Int)=mx at *;generalize Wh.a_ z.natAbs=zs,Wh.a_ x.natAbs=xs,decide (z<0)=s2,decide (x<0)=s1,Wh.bl z.natAbs=k2,Wh.bl x.natAbs=k1 at *;generalize zs.length=lz,xs.length=lx at *;replace P1:=DB P1;replace P2:=DB P2;replace PM:=DB PM;have b1:=jJ.new w (.bool s1) (.slice ax lx cx) (.bool s2) (.slice az lz cz) 174;have hB:=(DE w.heap.size w).alloc (DF _) (.cells #[s1,.slice ax lx cx,s2,.slice az lz cz] 174);generalize hw3:w.alloc (.cells #[s1,.slice ax lx cx,s2,.slice az lz cz] 174)=w3 at *;have e0:=b1.c0;have e1:=b1.c1;have e2:=b1.c2;have e3:=b1.c3;go_enter Tryz.func163,Tryz.ntmps163
 go_wp2
 go_region_held3 (fun W=>W.cell? ⟨w.heap.size,0,none⟩=some (.bool s1)/\W.cell? ⟨w.heap.size,1,none⟩=some (.slice ax lx cx)/\W.cell? ⟨w.heap.size,2,none⟩=some (.bool s2)/\W.cell? ⟨w.heap.size,3,none⟩=some (.slice az lz cz)) (first | (refine ⟨?_,?_,?_,?_⟩ <;> (first | (with_reducible exact aE (by assumption) (by assumption)) | (with_reducible exact Gr.bJ (by assumption)) | (with_reducible refine Gr.bp (by assumption) ?_;(intro DI;(try simp only [DC,aP,World.heap_drewN,aK] at DI);omega)) | (with_reducible refine Gr.eN (by assumption) ?_ ?_ <;> (intro DI;(try simp only [DC,aP,World.heap_drewN,aK] at DI);omega)) | exact aE (by assumption) (by assumption) | (with_reducible exact bI (by assumption) (by assumption) (by assumption)))) | (go_split_ands;(refine ⟨?_,?_,?_,?_⟩ <;> (first | (with_reducible exact aE (by assumption) (by assumption)) | (with_reducible exact Gr.bJ (by assumption)) | (with_reducible refine Gr.bp (by assumption) ?_;(intro DI;(try simp only [DC,aP,World.heap_drewN,aK] at DI);omega)) | (with_reducible refine Gr.eN (by assumption) ?_ ?_ <;> (intro DI;(try simp only [DC,aP,World.heap_drewN,aK] at DI);omega)) | exact aE (by assumption) (by assumption) | (with_reducible exact bI (by assumption) (by assumption) (by assumption))))) | go_keep) ((first
  | (go_at_call 175;first
   | ((with_reducible refine (P1.out _ (GW.out _ hB.drew)).mono ?_);rintro e w4 ⟨rfl,hb4⟩;have Ii:=aE hb4 (ai e0);have EX:=aE hb4 (ai e1);have FD:=aE hb4 (ai e2);have GG:=aE hb4 (ai e3);have B4:=hB.drew.trans (hb4.mono hB.size))
   | ((with_reducible refine (P2.out _ (G5.out _ B4)).mono ?_);rintro e w5 ⟨rfl,hb5⟩;have y0_:=aE hb5 Ii;have Gs:=aE hb5 EX;have Hk:=aE hb5 FD;have J6:=aE hb5 GG;have B5:=d_ B4 hb5))
  | (go_at_call 94;(with_reducible refine (PM.out _).mono ?_);rintro e w6 ⟨rfl,rfl⟩)
  | fail "ARMS"))
 all_goals
  go_wp2;go_ret;exact ⟨rfl,B5⟩
theorem Cz {w2:World} {sl:Value} {xs:List Int} (c base:Nat) (u v x y:Value) (h2:c<base) (hoc:aF w2 base sl xs) :
  aF ((((w2.setCell ⟨c,0,none⟩ u).setCell ⟨c,1,none⟩ v).setCell ⟨c,2,none⟩ x).setCell ⟨c,3,none⟩ y) base sl xs:=by
 refine World.ownsRow.kept hoc (Gr.set (Gr.set (cO w2 c u v) 2 x) 3 y) ?_
 cases hs:sl.ownBlock with
 | none=>exact Or.inl rfl
 | some g=>
 right
 intro e
 injection e with e
 have:=(aF.lt hoc g hs).1;omega
theorem CD (n d:Int) (w:World) (hn1:-1000000000000000000<=n) (hn2:n<=1000000000000000000) (hd1:-1000000000000000000<=d) (hd2:d<=1000000000000000000) :
  Calls Tryz.prog 172 #[n,d] w fun e w'=>∃ vx vz,e=.returned (.agg #[decide (n<0),vx,decide (d<0),vz])/\ae w' w.heap.size vx n/\ae w' w.heap.size vz d/\Below w.heap.size w w':=by
 have PN:=DB fun W=>kk n W hn1 hn2
 have PD:=DB fun W=>kk d W hd1 hd2
 have b0:=jJ.new w (.bool false) (.slice none 0 0) (.bool false) (.slice none 0 0) 174;have hB:=(DE w.heap.size w).alloc (DF _) (.cells #[false,.slice none 0 0,false,.slice none 0 0] 174);generalize decide (d<0)=s2,decide (n<0)=s1 at *;generalize hw3:w.alloc (.cells #[false,.slice none 0 0,false,.slice none 0 0] 174)=w3 at *;go_enter Tryz.func172,Tryz.ntmps172
 go_wp2_with (go_at_call 177;first
  | ((with_reducible refine (PN.out _).mono ?_);rintro e w4 ⟨vx,rfl,hox,hbx⟩;obtain ⟨ax,Hv,rfl,hmx,hvx⟩:=aF.view hox;clear hmx hvx;replace hox:=DB hox;have b4:=b0.keep hbx;have B4:=d_ hB hbx)
  | ((with_reducible refine (PD.out _).mono ?_);rintro e w5 ⟨vz,rfl,Dl,hbz⟩;obtain ⟨az,Hw,rfl,hmz,hvz⟩:=aF.view Dl;clear hmz hvz;have b5:=b4.keep hbz;have B5:=d_ B4 hbz;have QK:=aF.below hox.out hbz;have c0:=b5.c0;have c1:=b5.c1;have c2:=b5.c2;have c3:=b5.c3;have f0:=b5.f0;have f1:=b5.f1;have f2:=b5.f2;have f3:=b5.f3))
 have h3:=b0.size;have h4:=b4.size;have r1:=aF.base (Cz w.heap.size _ (.bool s1) (.slice ax (Wh.a_ n.natAbs).length Hv) (.bool s2) (.slice az (Wh.a_ d.natAbs).length Hw) (by omega) QK) (Nat.le_of_lt h3);have r2:=aF.base (Cz w.heap.size _ (.bool s1) (.slice ax (Wh.a_ n.natAbs).length Hv) (.bool s2) (.slice az (Wh.a_ d.natAbs).length Hw) (by omega) Dl) (Nat.le_of_lt h4)
 have r3:Below w.heap.size w ((((w5.setCell ⟨w.heap.size,0,none⟩ (.bool s1)).setCell ⟨w.heap.size,1,none⟩ (.slice ax (Wh.a_ n.natAbs).length Hv)).setCell ⟨w.heap.size,2,none⟩ (.bool s2)).setCell ⟨w.heap.size,3,none⟩ (.slice az (Wh.a_ d.natAbs).length Hw)):=by
  refine DD (DD (DD (DD B5 ?_ _) ?_ _) ?_ _) ?_ _ <;> exact DF _
 generalize (Wh.a_ d.natAbs).length=ld,(Wh.a_ n.natAbs).length=ln at *;exact bodyPost_ret (v:=.agg #[s1,.slice ax ln Hv,s2,.slice az ld Hw]) (by simp [results,Tryz.results172,go_sem, *]) rfl (⟨_,_,rfl,r1,r2,r3⟩)
theorem mO (a b:Int) (w:World) (h:M.aw a b=true) :
  Calls Tryz.prog 116 #[.agg #[a,b]] w fun e w'=>e=.returned (.int .i64 (M.aS a b))/\Below w.heap.size w w':=by
 obtain ⟨h1,h1',h2,h2'⟩:=M.ag h;have b1:=M.aH (x:=4*a) (y:=a) (m:=4000) (n:=1000);have b2:=M.aH (x:=4*a*a) (y:=a) (m:=4000000) (n:=1000);have b3:=M.aH (x:=27*b) (y:=b) (m:=270000) (n:=10000);go_enter Tryz.func116,Tryz.ntmps116
 go_wp2;go_ret;exact ⟨rfl,((DE w.heap.size w).alloc (DF _) _)⟩
theorem ew {a b:Int} (h:M.aw a b=true):(M.aS a b).natAbs<=6700000000:=by
 obtain ⟨h1,h1',h2,h2'⟩:=M.ag h;have b1:=M.aH (x:=4*a) (y:=a) (m:=4000) (n:=1000);have b2:=M.aH (x:=4*a*a) (y:=a) (m:=4000000) (n:=1000);have b3:=M.aH (x:=27*b) (y:=b) (m:=270000) (n:=10000);unfold M.aS;omega
theorem gB {a b:Int} (h:M.good a b=true):M.aS a b≠0:=by
 unfold M.good at h;simp only [Bool.and_eq_true,bne_iff_ne] at h;exact h.2
theorem jz (a b t u:Int) (vt vu:Value) (w:World) (bt bu:Nat) (hg:M.good a b=true) (hot:ae w bt vt t) (hou:ae w bu vu u) (hl1:(Wh.a_ t.natAbs).length<=9000) (hl2:(Wh.a_ u.natAbs).length<=9000) :
  Calls Tryz.prog 193 #[.agg #[a,b],.agg #[decide (t<0),vt],.agg #[decide (u<0),vu]] w fun e w'=>e=.returned (.int .i64 (M.gcd (M.gcd (4*((M.aS a b).natAbs:Int)) (t % (4*((M.aS a b).natAbs:Int)))) (u % (4*((M.aS a b).natAbs:Int)))))/\Below w.heap.size w w':=by
 obtain ⟨at_,ct,rfl,-,-⟩:=aF.view hot;obtain ⟨au,cu,rfl,-,-⟩:=aF.view hou;have hin:=M.aj hg;have hdb:=ew hin;have hdn:=gB hg
 have hdp:1<=(M.aS a b).natAbs:=by omega
 have PD:=fun W=>mO a b W hin
 have PA:=fun W=>dH (M.aS a b) W (by omega) (by omega)
 clear hin hg hdn;generalize M.aS a b=D at *;generalize hd:D.natAbs=d at *
 have P1:=fun W (h:aF W bt (.slice at_ (Wh.a_ t.natAbs).length ct) (Wh.a_ t.natAbs))=>eo t (4*(d:Int)) (.slice at_ (Wh.a_ t.natAbs).length ct) W bt h hl1 (by omega) (by omega)
 have P2:=fun W (h:aF W bu (.slice au (Wh.a_ u.natAbs).length cu) (Wh.a_ u.natAbs))=>eo u (4*(d:Int)) (.slice au (Wh.a_ u.natAbs).length cu) W bu h hl2 (by omega) (by omega)
 have r1:=Int.emod_nonneg t (b:=4*(d:Int)) (by omega);have r2:=Int.emod_lt_of_pos t (b:=4*(d:Int)) (by omega);have r3:=Int.emod_nonneg u (b:=4*(d:Int)) (by omega);have r4:=Int.emod_lt_of_pos u (b:=4*(d:Int)) (by omega);generalize t % (4*(d:Int))=x at *;generalize u % (4*(d:Int))=y at *
 have PG:=fun (m n:Int) W (h1:0<=m) (h2:m<=9000000000000000000) (h3:0<=n) (h4:n<=9000000000000000000)=>dK m n W h1 h2 h3 h4
 have g0:0<=M.gcd (4*(d:Int)) x:=by unfold M.gcd;omega
 have g1:M.gcd (4*(d:Int)) x<=26800000000:=by
  have en:(4*(d:Int)).natAbs=4*d:=by omega
  have:=Nat.gcd_le_left x.natAbs (show 0<4*d by omega);unfold M.gcd Int.gcd;rw [en];omega
 have hOT:Hid (∀ W,Below w.heap.size w W->aF W bt (.slice at_ (Wh.a_ t.natAbs).length ct) (Wh.a_ t.natAbs)):=DB fun W h=>aF.below hot h
 have hOU:Hid (∀ W,Below w.heap.size w W->aF W bu (.slice au (Wh.a_ u.natAbs).length cu) (Wh.a_ u.natAbs)):=DB fun W h=>aF.below hou h
 clear hot hou hl1 hl2;generalize decide (u<0)=s2,decide (t<0)=s1 at *;generalize decide (t / (4*(d:Int))<0)=s3 at *;generalize decide (u / (4*(d:Int))<0)=s4 at *;generalize t / (4*(d:Int))=qt at *;generalize u / (4*(d:Int))=qu at *;generalize Wh.a_ u.natAbs=us,Wh.a_ t.natAbs=ts at *;generalize us.length=lu,ts.length=lt at *;replace PD:=DB PD;replace PA:=DB PA;replace P1:=DB P1;replace P2:=DB P2;replace PG:=DB PG;have b1:=((ay.new w (.int .i64 a) (.int .i64 b) 25).alloc (.cells #[s1,.slice at_ lt ct] 116)).alloc (.cells #[s2,.slice au lu cu] 116);have b2:=(ay.new2 w (.cells #[a,b] 25) (.bool s1) (.slice at_ lt ct) 116).alloc (.cells #[s2,.slice au lu cu] 116);have b3:=ay.new (((w.alloc (.cells #[a,b] 25)).alloc (.cells #[s1,.slice at_ lt ct] 116))) (.bool s2) (.slice au lu cu) 116;rw [fm] at b3;have hB:=(((DE w.heap.size w).alloc (DF _) (.cells #[a,b] 25)).alloc (by rw [DC];omega) (.cells #[s1,.slice at_ lt ct] 116)).alloc (by rw [fm];omega) (.cells #[s2,.slice au lu cu] 116)
 have hz:(((w.alloc (.cells #[a,b] 25)).alloc (.cells #[s1,.slice at_ lt ct] 116)).alloc (.cells #[s2,.slice au lu cu] 116)).heap.size=w.heap.size+3:=by rw [DC,fm]
 generalize hw3:((w.alloc (.cells #[a,b] 25)).alloc (.cells #[s1,.slice at_ lt ct] 116)).alloc (.cells #[s2,.slice au lu cu] 116)=w3 at *;have e0:=b1.c0;have e1:=b1.c1;go_enter Tryz.func193,Tryz.ntmps193
 go_wp2_with (first
  | (go_at_call 116;(with_reducible refine (PD.out _).mono ?_);rintro e w4 ⟨rfl,hb4⟩;have x2:=b2.keep hb4;have x3:=b3.keep hb4;have B4:=d_ hB hb4;have f1:=x2.c0;have f2:=x2.c1)
  | (go_at_call 53;(with_reducible refine (PA.out _).mono ?_);rintro e w5 ⟨rfl,rfl⟩)
  | (go_at_call 194;first
   | ((with_reducible refine (P1.out _ (hOT.out _ B4)).mono ?_);rintro e w6 ⟨vq,rfl,hoq,hbq⟩;obtain ⟨aq,cq,rfl,GN,Qu⟩:=aF.view hoq;clear GN Qu hoq;(generalize (Wh.a_ qt.natAbs).length=lq at *);have x6:=x3.keep hbq;have B6:=d_ B4 hbq;have x7:=x6.alloc (.cells #[s3,.slice aq lq cq] 116);have B7:=B6.alloc B6.size (.cells #[s3,.slice aq lq cq] 116);(have f3:(w6.alloc (.cells #[s3,.slice aq lq cq] 116)).cell? ⟨w.heap.size+1+1,0,none⟩=some (.bool s2):=x7.c0);(have f4:(w6.alloc (.cells #[s3,.slice aq lq cq] 116)).cell? ⟨w.heap.size+1+1,1,none⟩=some (.slice au lu cu):=x7.c1))
   | ((with_reducible refine (P2.out _ (hOU.out _ B7)).mono ?_);rintro e w8 ⟨vp,rfl,hop,hbp⟩;obtain ⟨ap,cp,rfl,hmp,hvp⟩:=aF.view hop;clear hmp hvp hop;(generalize (Wh.a_ qu.natAbs).length=lp at *);have B8:=d_ B7 hbp;have B9:=B8.alloc B8.size (.cells #[s4,.slice ap lp cp] 116)))
  | (go_at_call 52;first
   | ((with_reducible refine (PG.out (4*(d:Int)) x _ (by omega) (by omega) (by omega) (by omega)).mono ?_);rintro e w9 ⟨rfl,rfl⟩)
   | ((with_reducible refine (PG.out (M.gcd (4*(d:Int)) x) y _ (by omega) (by omega) (by omega) (by omega)).mono ?_);rintro e w9 ⟨rfl,rfl⟩))
  | fail "ARMS")
 go_ret;exact ⟨rfl,B9⟩
theorem jJ.alloc {w:World} {b:Nat} {u v x y:Value} (h:jJ w b u v x y) (o:Obj):jJ (w.alloc o) b u v x y:=h.keep ((DE w.heap.size w).alloc (DF _) o)
def vC (B:Nat) (W:World) (p u v:Value):Prop:=∃ g,p=.pointer (some ⟨g,0,none⟩)/\B<=g/\ay W g u v
theorem vC.keep {B:Nat} {W W':World} {p u v:Value} (h:vC B W p u v) (hb:Below W.heap.size W W'):vC B W' p u v:=by
 obtain ⟨g,e,hB,h⟩:=h;exact ⟨g,e,hB,h.keep hb⟩
end
section
open Go
namespace Rg
variable {P:Program} {Q:Exit->Act->World->Prop} {md:Region.Mode}
def fill (l:Nat->Bool) (vals:Nat->Value):List Oper->Nat->Act->Act
 | [],_,a=>a
 | o :: os,k,a=>fill l vals os (k+1) (if l k then a.put o.dst (vals k) else a)
def sep (o x:Oper):Bool:=match o.dst with | some d=>x.dst != some d | none=>true
def apart:List Oper->Bool
 | []=>true
 | o :: os=>os.all (sep o) && apart os
theorem bF:(∀ (α:Type) (a:α) (l:List α) (n:Nat),(a :: l).take (n+1)=a :: l.take n)/\(∀ (α:Type) (l:List α),l.take 0=[])/\(∀ (α:Type) (a:α) (l:List α) (n:Nat),(a :: l).drop (n+1)=l.drop n)/\(∀ (α:Type) (l:List α),l.drop 0=l)/\(∀ (α:Type) [Decidable True] (a b:α),(if True then a else b)=a)/\(∀ (α:Type) (l:List α) (i:Nat) (a:α),l.toArray.setIfInBounds i a=(l.set i a).toArray)/\(∀ (α:Type) (x a:α) (l:List α),(x :: l).set 0 a=a :: l)/\(∀ (α:Type) (x a:α) (l:List α) (n:Nat),(x :: l).set (n+1) a=x :: l.set n a)/\∀ n:Nat,0+n=n:=
 ⟨fun _ _ _ _=>List.take_succ_cons,fun _ _=>List.take_zero,fun _ _ _ _=>List.drop_succ_cons,fun _ _=>List.drop_zero,fun _ _ _ _=>if_true ..,fun _ _ _ _=>List.setIfInBounds_toArray ..,fun _ _ _ _=>List.set_cons_zero,fun _ _ _ _ _=>List.set_cons_succ,Nat.zero_add⟩
theorem b8 {l l':Nat->Bool} {v v':Nat->Value}:∀ (os:List Oper) (k:Nat) (a:Act),(∀ j,k<=j->j<k+os.length->l j=l' j)->(∀ j,k<=j->l j=true->v j=v' j)->fill l v os k a=fill l' v' os k a
 | [],_,_,_,_=>rfl
 | o :: os,k,a,h1,h2=>by
  unfold fill;rw [←h1 k (DF _) (by simp)]
  cases hl:l k
  ·simp only [Bool.false_eq_true,if_false]
   exact b8 os (k+1) a (fun j hj hj2=>h1 j (by omega) (by simp;omega)) (fun j hj=>h2 j (by omega))
  simp only [if_true];rw [h2 k (DF _) hl];exact b8 os (k+1) _ (fun j hj hj2=>h1 j (by omega) (by simp;omega)) (fun j hj=>h2 j (by omega))
theorem pq {l:Nat->Bool} {v:Nat->Value} {d:Option Tmp} {u:Value}:∀ (os:List Oper) (k:Nat) (a:Act),(∀ x ∈ os,∀ t,d=some t->x.dst≠some t)->(fill l v os k a).put d u=fill l v os k (a.put d u)
 | [],_,_,_=>rfl
 | o :: os,k,a,h=>by
  unfold fill;rw [pq os (k+1) _ (fun x hx=>h x (List.mem_cons_of_mem _ hx))]
  congr 1
  split
  ·exact (Act.put_comm a u (v k) (h o (List.mem_cons_self ..))).symm
  rfl
theorem ix {l:Nat->Bool} {v:Nat->Value} {u:Value}:∀ (os:List Oper) (k i:Nat) (o:Oper) (a:Act),apart os=true->os[i]?=some o->l (k+i)=false->
  (fill l v os k a).put o.dst u=fill (fun j=>if j=k+i then true else l j) (fun j=>if j=k+i then u else v j) os k a
 | [],_,_,_,_,_,h,_=>by simp at h
 | x :: os,k,0,o,a,ha,h,hl=>by
  simp only [List.getElem?_cons_zero,Option.some.injEq] at h;subst h;rw [apart,Bool.and_eq_true] at ha
  have hs:∀ y ∈ os,∀ t,x.dst=some t->y.dst≠some t:=fun y hy t ht=>by
   have:=List.all_eq_true.1 ha.1 y hy;rw [sep,ht] at this
   simpa using this
  unfold fill;rw [Nat.add_zero] at hl ⊢;rw [pq os (k+1) _ hs,if_neg (by simp [hl])]
  have e:(if (if k=k then true else l k)=true then a.put x.dst (if k=k then u else v k) else a)=a.put x.dst u:=by simp
  show _=fill _ _ os (k+1) (if (if k=k then true else l k)=true then a.put x.dst (if k=k then u else v k) else a)
  rw [e];exact b8 os (k+1) _ (fun j hj _=>by rw [if_neg (by omega)]) (fun j hj _=>by rw [if_neg (by omega)])
 | x :: os,k,i+1,o,a,ha,h,hl=>by
  rw [apart,Bool.and_eq_true] at ha;rw [show k+(i+1)=k+1+i from by omega] at hl ⊢;unfold fill;rw [ix os (k+1) i o _ ha.2 (by simpa using h) hl]
  congr 1
  rw [if_neg (show ¬ k=k+1+i by omega),if_neg (show ¬ k=k+1+i by omega)]
theorem xd (a:Act) (d:Option Tmp) (v:Value):(a.put d v).tmps.size=a.tmps.size:=by
 cases d <;> simp [Act.put]
theorem zf {a:Act} {d:Option Tmp} {v:Value} {t:Nat} (h:d≠some t):(a.put d v).tmps[t]?=a.tmps[t]?:=by
 cases d with
 | none=>rfl
 | some d=>simp only [Act.put];rw [Array.getElem?_setIfInBounds_ne (by intro e;exact h (by rw [e]))]
theorem oj {a:Act} {v:Value} {t:Nat} (h:t<a.tmps.size):(a.put (some t) v).tmps[t]?=some v:=by
 simp [Act.put,h]
theorem fA {l:Nat->Bool} {v:Nat->Value} {t:Nat}:∀ (os:List Oper) (k:Nat) (a:Act),(∀ i o,os[i]?=some o->l (k+i)=true->o.dst≠some t)->(fill l v os k a).tmps[t]?=a.tmps[t]?
 | [],_,_,_=>rfl
 | o :: os,k,a,h=>by
  unfold fill;rw [fA os (k+1) _ (fun i x hx hl=>h (i+1) x (by simpa using hx) (by rw [show k+(i+1)=k+1+i from by omega];exact hl))]
  split
  ·rename_i hk
   exact zf (h 0 o rfl hk)
  rfl
theorem kJ {l:Nat->Bool} {v:Nat->Value} {t:Nat}:∀ (os:List Oper) (k i:Nat) (o:Oper) (a:Act),apart os=true->os[i]?=some o->l (k+i)=true->o.dst=some t->t<a.tmps.size->(fill l v os k a).tmps[t]?=some (v (k+i))
 | [],_,_,_,_,_,h,_,_,_=>by simp at h
 | x :: os,k,0,o,a,ha,h,hl,hd,ht=>by
  simp only [List.getElem?_cons_zero,Option.some.injEq] at h;subst h;rw [apart,Bool.and_eq_true] at ha;unfold fill;rw [Nat.add_zero] at hl ⊢
  rw [fA os (k+1) _ (fun i y hy _=>by
   have:=List.all_eq_true.1 ha.1 y (List.mem_of_getElem? hy);rw [sep,hd] at this
   simpa using this),if_pos hl,hd]
  exact oj ht
 | x :: os,k,i+1,o,a,ha,h,hl,hd,ht=>by
  rw [apart,Bool.and_eq_true] at ha;rw [show k+(i+1)=k+1+i from by omega] at hl ⊢;unfold fill;refine kJ os (k+1) i o _ ha.2 (by simpa using h) hl hd ?_
  split
  ·rw [xd];exact ht
  exact ht
def left (l:Nat->Bool):Nat->Nat
 | 0=>0
 | n+1=>left l n+if l n then 0 else 1
theorem mZ {l l':Nat->Bool}:∀ n:Nat,(∀ j,j<n->l j=l' j)->left l n=left l' n
 | 0,_=>rfl
 | n+1,h=>by unfold left;rw [mZ n (fun j hj=>h j (by omega)),h n (by omega)]
theorem i7 {l l':Nat->Bool} {i:Nat} (h0:l i=false) (h1:l' i=true) (h2:∀ j,j≠i->l' j=l j):∀ n:Nat,i<n->left l' n+1=left l n
 | 0,h=>by omega
 | n+1,h=>by
  unfold left
  rcases Nat.lt_or_ge i n with q | q
  ·have:=i7 h0 h1 h2 n q
   rw [h2 n (by omega)];omega
  obtain rfl:i=n:=by omega
  rw [mZ i (l:=l') (l':=l) (fun j hj=>h2 j (by omega)),h0,h1];simp
theorem iB {l:Nat->Bool}:∀ n:Nat,left l n=0->∀ j,j<n->l j=true
 | 0,_,j,hj=>by omega
 | n+1,h,j,hj=>by
  unfold left at h
  cases hn:l n
  ·rw [hn] at h;simp at h
  rcases Nat.lt_or_ge j n with q | q
  ·exact iB n (by omega) j q
  obtain rfl:j=n:=by omega
  exact hn
def rd (md:Region.Mode) (ops:Array Oper) (a0:Act) (vals:Nat->Value) (o:Oper) (t:Nat):Option Value:=
 match o.after.toList.find? (fun e=>Region.binds md e && ((ops[e.on]?).bind (·.dst)) == some t) with
 | some e=>some (vals e.on)
 | none=>a0.tmps[t]?
def ic (md:Region.Mode) (ops:Array Oper) (i:Nat) (o:Oper) (t:Nat):Bool:=
 o.after.toList.any (fun e=>Region.binds md e && ((ops[e.on]?).bind (·.dst)) == some t) ||
 (List.range ops.size).all fun j=>match ops[j]? with
  | some x=>x.dst != some t || j == i || x.after.toList.any (fun e=>Region.binds md e && e.on == i)
  | none=>true
def zK (md:Region.Mode) (ops:Array Oper):Bool:=(List.range ops.size).all fun i=>match ops[i]? with
 | some o=>(o.looksAt ops).all (ic md ops i o)
 | none=>true
def fC (md:Region.Mode) (ops:Array Oper) (n:Nat):Bool:=
 apart ops.toList && zK md ops && ((List.range ops.size).all fun i=>match ops[i]? with
  | some o=>o.after.toList.all (fun e=>!Region.binds md e || decide (e.on<i)) && (match o.dst with | some d=>decide (d<n) | none=>true)
  | none=>true)
section
variable (P) (Q) (md) (ops:Array Oper) (S:World->Prop) (V:Nat->Value->World->Prop) (a0:Act)
def Au (i:Nat) (o:Oper) (a:Act) (w:World):Prop:=
 if Region.wanted o (yielded ops a.tmps)=true then o.wp P a w (fun a' w'=>∃ v,a'=a.put o.dst v/\V i v w'/\S w'/\∀ j u,V j u w->V j u w') Q else V i undef w
def Req (i:Nat) (o:Oper):Prop:=∀ (a:Act) (w:World) (vals:Nat->Value),S w->(∀ e ∈ o.after,Region.binds md e=true->V e.on (vals e.on) w)->(∀ t ∈ o.looksAt ops,a.tmps[t]?=rd md ops a0 vals o t)->Au P Q ops S V i o a w
def qx:List Oper->Nat->Prop
 | [],_=>True
 | o :: os,k=>Req P Q md ops S V a0 k o/\qx os (k+1)
theorem qx.at {os:List Oper} {k:Nat} (h:qx P Q md ops S V a0 os k):∀ {i:Nat} {o:Oper},os[i]?=some o->Req P Q md ops S V a0 (k+i) o:=by
 induction os generalizing k with
 | nil=>intro i o hi;simp at hi
 | cons x os ih=>
 intro i o hi
 cases i with
 | zero=>
  simp only [List.getElem?_cons_zero,Option.some.injEq] at hi;subst hi;exact h.1
 | succ i=>
 have:=ih h.2 (i:=i) (o:=o) (by simpa using hi);rw [show k+(i+1)=k+1+i from by omega];exact this
def Inv (L:Array Bool) (a:Act) (w:World):Prop:=
 L.size=ops.size/\S w/\(∀ i o,ops[i]?=some o->L.getD i false=true->∀ e ∈ o.after,Region.binds md e=true->L.getD e.on false=true)/\
 ∃ vals:Nat->Value,a=fill (fun j=>L.getD j false) vals ops.toList 0 a0/\∀ i,i<ops.size->L.getD i false=true->V i (vals i) w
end
theorem yR {ops:Array Oper} {S:World->Prop} {V:Nat->Value->World->Prop} {a0:Act} (hok:fC md ops a0.tmps.size=true)
  (hR:qx P Q md ops S V a0 ops.toList 0) (hF:∀ (vals:Nat->Value) (w:World),S w->(∀ i,i<ops.size->V i (vals i) w)->Q .normal (fill (fun _=>true) vals ops.toList 0 a0) w) :
  ∀ (fuel:Nat) (L:Array Bool) (a:Act) (w:World),left (fun j=>L.getD j false) ops.size<=fuel->Inv md ops S V a0 L a w->wpAny P md ops Q fuel L a w:=by
 rw [fC,Bool.and_eq_true,Bool.and_eq_true] at hok;obtain ⟨⟨hap,hrd⟩,hac⟩:=hok
 have El:∀ i o,ops[i]?=some o->(∀ e ∈ o.after,Region.binds md e=true->e.on<i)/\∀ d,o.dst=some d->d<a0.tmps.size:=fun i o hi=>by
  have hlt:i<ops.size:=(Array.getElem?_eq_some_iff.1 hi).1;have:=List.all_eq_true.1 hac i (List.mem_range.2 hlt);rw [hi] at this;simp only [Bool.and_eq_true,List.all_eq_true,Bool.or_eq_true,Bool.not_eq_true',decide_eq_true_eq] at this;refine ⟨fun e he hb=>?_,fun d hd=>?_⟩
  ·rcases this.1 e (Array.mem_toList_iff.2 he) with q | q
   ·rw [hb] at q;cases q
   exact q
  have:=this.2;rw [hd] at this
  simpa using this
 have htl:∀ i,ops.toList[i]?=ops[i]?:=fun i=>Array.getElem?_toList
 have hall:∀ L:Array Bool,L.size=ops.size->Region.ready md ops L=[]->∀ i,i<ops.size->L.getD i false=true:=by
  intro L hL hr i
  induction i using Nat.strongRecOn with
  | ind i ih=>
  intro hi
  cases hl:L.getD i false
  ·exfalso
   have hm:i ∈ Region.ready md ops L:=by
    unfold Region.ready;rw [List.mem_filter];refine ⟨List.mem_range.2 hi,?_⟩
    have hg:L.getD i true=false:=by
     rw [Array.getD_eq_getD_getElem?,Array.getElem?_eq_getElem (by omega)] at hl ⊢;exact hl
    rw [hg,Array.getElem?_eq_getElem hi];simp only [Bool.not_false,Bool.true_and,Option.map_some,Option.getD_some];rw [Array.all_eq_true_iff_forall_mem];intro e he
    cases hb:Region.binds md e
    ·rfl
    have hlt:=(El i _ (Array.getElem?_eq_getElem hi)).1 e he hb;simp [ih e.on hlt (by omega)]
   rw [hr] at hm;cases hm
  rfl
 have hfin:∀ (L:Array Bool) (a:Act) (w:World),Inv md ops S V a0 L a w->Region.ready md ops L=[]->Q .normal a w:=by
  rintro L a w ⟨hL,hS,-,vals,rfl,hv⟩ hr;have h:=hall L hL hr;rw [b8 (l':=fun _=>true) (v':=vals) ops.toList 0 a0 (fun j _ hj=>h j (by simpa using hj)) (fun _ _ _=>rfl)]
  exact hF vals w hS fun i hi=>hv i hi (h i hi)
 intro fuel
 induction fuel with
 | zero=>
  intro L a w hl hI;have hz:=iB _ (Nat.le_zero.1 hl)
  have hr:Region.ready md ops L=[]:=by
   unfold Region.ready;rw [List.filter_eq_nil_iff];intro i hi;have hi:=List.mem_range.1 hi;have h1:=hz i hi
   have hg:L.getD i true=true:=by
    have hsz:=hI.1;simp only [Array.getD_eq_getD_getElem?] at h1 ⊢;rw [Array.getElem?_eq_getElem (by omega)] at h1 ⊢;exact h1
   rw [hg];simp
  exact ⟨hr,hfin L a w hI hr⟩
 | succ fuel ih=>
 intro L a w hl hI;refine ⟨hfin L a w hI,fun i hi=>?_⟩;obtain ⟨hL,hS,hdc,vals,rfl,hv⟩:=hI;obtain ⟨hun,o,ho,GM⟩:=mem_ready.1 hi;have hilt:i<ops.size:=(Array.getElem?_eq_some_iff.1 ho).1
 have hun':L.getD i false=false:=by
  simp only [Array.getD_eq_getD_getElem?] at hun ⊢;rw [Array.getElem?_eq_getElem (by omega)] at hun ⊢;exact hun
 have hq:=qx.at P Q md ops S V a0 hR (i:=i) (o:=o) (by rw [htl];exact ho);rw [Nat.zero_add] at hq
 have hst:=hq (fill (fun j=>L.getD j false) vals ops.toList 0 a0) w vals hS
  (fun e he hb=>hv e.on (by have:=(El i o ho).1 e he hb;omega) (GM e he hb))
  (fun t ht=>by
   unfold rd
   have hr1:ic md ops i o t=true:=by
    have:=List.all_eq_true.1 hrd i (List.mem_range.2 hilt);rw [ho] at this;exact List.all_eq_true.1 this t ht
   cases hf:o.after.toList.find? (fun e=>Region.binds md e && ((ops[e.on]?).bind (·.dst)) == some t) with
   | some e=>
    have h1:=List.find?_some hf;have h2:=List.mem_of_find?_eq_some hf;rw [Bool.and_eq_true,beq_iff_eq] at h1;obtain ⟨x,hx,hxd⟩:=Option.bind_eq_some_iff.1 h1.2;have h3:=GM e (Array.mem_toList_iff.1 h2) h1.1;have:=kJ (l:=fun j=>L.getD j false) (v:=vals) ops.toList 0 e.on x a0 hap (by rw [htl];exact hx) (by simpa using h3) hxd ((El e.on x hx).2 t hxd);rw [Nat.zero_add] at this;exact this
   | none=>
   refine fA ops.toList 0 a0 fun j x hx hlj hxd=>?_
   rw [Nat.zero_add] at hlj;rw [htl] at hx;have hjlt:j<ops.size:=(Array.getElem?_eq_some_iff.1 hx).1;rw [ic,Bool.or_eq_true] at hr1
   rcases hr1 with q | q
   ·obtain ⟨e,he,hp⟩:=List.any_eq_true.1 q
    have:=List.find?_eq_none.1 hf e he;exact this hp
   have:=List.all_eq_true.1 q j (List.mem_range.2 hjlt);rw [hx] at this;simp only [Bool.or_eq_true,bne_iff_ne,ne_eq,beq_iff_eq,List.any_eq_true,Bool.and_eq_true] at this
   rcases this with (q1 | q1) | ⟨e,he,hb,hon⟩
   ·exact q1 hxd
   ·subst q1
    rw [hun'] at hlj;cases hlj
   have:=hdc j x hx hlj e (Array.mem_toList_iff.1 he) hb;rw [hon,hun'] at this
   cases this)
 have hnext:∀ (v:Value) (w':World),V i v w'->S w'->(∀ j u,V j u w->V j u w')->wpAny P md ops Q fuel (L.setIfInBounds i true) ((fill (fun j=>L.getD j false) vals ops.toList 0 a0).put o.dst v) w':=by
  intro v w' h1 h2 h3
  have e1:∀ j,(L.setIfInBounds i true).getD j false=if j=i then true else L.getD j false:=fun j=>by
   simp only [Array.getD_eq_getD_getElem?]
   by_cases hji:j=i
   ·subst hji
    rw [Array.getElem?_setIfInBounds_self_of_lt (by omega)];simp
   rw [Array.getElem?_setIfInBounds_ne (fun e=>hji e.symm),if_neg hji]
  refine ih _ _ _ ?_ ⟨by simpa using hL,h2,?_,fun j=>if j=i then v else vals j,?_,?_⟩
  ·have:=i7 (l:=fun j=>L.getD j false) (l':=fun j=>(L.setIfInBounds i true).getD j false) hun' (by rw [e1,if_pos rfl]) (fun j hj=>by rw [e1,if_neg hj]) ops.size hilt
   omega
  ·intro j x hx hlj e he hb
   rw [e1] at hlj ⊢
   split
   ·rfl
   split at hlj
   ·rename_i hji
    subst hji;rw [ho] at hx;cases hx
    exact GM e he hb
   exact hdc j x hx hlj e he hb
  ·rw [ix ops.toList 0 i o a0 hap (by rw [htl];exact ho) (by simpa using hun')]
   rw [Nat.zero_add];exact b8 _ _ _ (fun j _ _=>(e1 j).symm) (fun _ _ _=>rfl)
  intro j hj hlj;rw [e1] at hlj
  show V j (if j=i then v else vals j) w'
  split
  ·rename_i hji
   rw [hji];exact h1
  rename_i hji
  rw [if_neg hji] at hlj;exact h3 _ _ (hv j hj hlj)
 unfold wpOp;rw [ho];unfold Au at hst
 dsimp only
 split at hst
 ·rename_i hw
  rw [if_pos hw];refine Or.inl (Oper.wp_mono ?_ hst);rintro a' w' ⟨v,rfl,h1,h2,h3⟩;exact hnext v w' h1 h2 h3
 rename_i hw
 rw [if_neg hw]
 exact hnext undef w hst hS fun _ _ h=>h
theorem region {id:Nat} {ops:Array Oper} {a0:Act} {w:World} (S:World->Prop) (V:Nat->Value->World->Prop) (hm:P.follows .mixedOrders=true) (hok:fC .any ops a0.tmps.size=true)
  (hS:S { w with drawn:=w.drawn+1 }) (hR:qx P Q .any ops S V a0 ops.toList 0)
  (hF:∀ (vals:Nat->Value) (w:World),S w->(∀ i,i<ops.size->V i (vals i) w)->Q .normal (fill (fun _=>true) vals ops.toList 0 a0) w):(Code.region id ops true).wp P Q a0 w:=by
 have rep:∀ j,(Array.replicate ops.size false).getD j false=false:=fun j=>by
  rw [Array.getD_eq_getD_getElem?,Array.getElem?_replicate]
  split <;> rfl
 refine wp_region_any hm (yR hok hR hF _ _ _ _ ?_ ⟨by simp,hS,?_,fun _=>undef,?_,?_⟩)
 ·have:∀ (l:Nat->Bool) n,left l n<=n:=fun l n=>by
   induction n with
   | zero=>exact DF _
   | succ n ih=>unfold left;split <;> omega
  exact this _ _
 ·intro i o hi hl
  rw [rep] at hl;cases hl
 ·have:∀ (v:Nat->Value) (os:List Oper) (k:Nat) (a:Act),fill (fun _=>false) v os k a=a:=fun v os=>by
   induction os with
   | nil=>intro k a;rfl
   | cons x os ih=>intro k a;unfold fill;simp [ih]
  refine (this _ ops.toList 0 a0).symm.trans (b8 _ _ _ (fun j _ hj=>(rep j).symm) (fun _ _ _=>rfl))
 intro i hi hl;rw [rep] at hl;cases hl
end Rg
end
section
open Go Go.RowKit
namespace Rg
inductive Val where
 | is (v:Value)
 | lit (xs:List Int)
 | num (p:Int->Prop)
 | such (p:Value->Prop)
 | at (p:Value->World->Prop)
 | new (B:Nat) (T:TypeId) (xs:Array Value)
def CL (v:Value) (xs:List Int) (w:World):Prop:=∃ b,v=.slice (some ⟨b,0,none⟩) xs.length xs.length/\b<w.heap.size/\∀ (j:Nat) (x:Int),xs[j]?=some x->w.cell? ⟨b,j,none⟩=some (.int .i64 x)
def Val.ok:Val->Value->World->Prop
 | .is x,v,_=>v=x
 | .lit xs,v,w=>CL v xs w
 | .num p,v,_=>∃ x,v=.int .i64 x/\p x
 | .such p,v,_=>p v
 | .at p,v,w=>∀ w',Below w.heap.size w w'->p v w'
 | .new B T xs,v,w=>∃ g,B<=g/\v=.pointer (some ⟨g,0,none⟩)/\w.heap[g]?=some (.cells xs T (0,0))
theorem Val.keep {w w':World} (hb:Below w.heap.size w w'):∀ (T:Val) (v:Value),T.ok v w->T.ok v w'
 | .is _,_,h=>h
 | .lit xs,_,⟨b,h1,h2,h3⟩=>⟨b,h1,Nat.lt_of_lt_of_le h2 hb.size,fun j x hx=>(hb.cell (p:=⟨b,j,none⟩) h2).trans (h3 j x hx)⟩
 | .num _,_,h=>h
 | .such _,_,h=>h
 | .at _,_,h=>fun w'' h2=>h w'' (d_ hb h2)
 | .new _ _ _,_,⟨g,hB,e,h⟩=>⟨g,hB,e,(hb.block g (Array.getElem?_eq_some_iff.1 h).1).trans h⟩
def Ds (T:List Val) (i:Nat):Val:=T.getD i (.is undef)
variable {P:Program} {Q:Exit->Act->World->Prop}
def nF (ops:Array Oper) (a0:Act) (T:List Val) (o:Oper) (a:Act) (w:World) (t:Nat):Prop:=
 match o.after.toList.find? (fun e=>Region.binds .any e && ((ops[e.on]?).bind (·.dst)) == some t) with
 | some e=>∃ v,a.tmps[t]?=some v/\(Ds T e.on).ok v w
 | none=>a.tmps[t]?=a0.tmps[t]?
def Does (P:Program) (ops:Array Oper) (Q:Exit->Act->World->Prop) (V:Val) (o:Oper) (a:Act) (w:World):Prop:=
 if Region.wanted o (yielded ops a.tmps)=true then o.wp P a w (fun a' w'=>∃ v,a'=a.put o.dst v/\V.ok v w'/\Below w.heap.size w w') Q else V.ok undef w
theorem ev {a:Act} {t:Nat} {v:Value} (h:a.tmps[t]?=some v):a.eval (.tmp t)=v:=by
 show a.tmps.getD t undef=v
 rw [Array.getD_eq_getD_getElem?,h];rfl
theorem l_ {a:Act} {t:Nat} {x:Value} {w:World} (h:∃ v,a.tmps[t]?=some v/\(Val.is x).ok v w):a.tmps[t]?=some x:=by
 obtain ⟨v,h1,rfl⟩:=h;exact h1
theorem aW {ops:Array Oper} {o:Oper} {a:Act} {w:World} {x:Value} (hw:Region.wanted o (yielded ops a.tmps)=true) (h:(execOp a.eval o).run P w=.ok (.value x) w):Does P ops Q (.is x) o a w:=by
 unfold Does;rw [if_pos hw];unfold Oper.wp;rw [h];exact ⟨x,rfl,rfl,DE _ _⟩
theorem Ae {ops:Array Oper} {o:Oper} {a:Act} {w:World} (hw:Region.wanted o (yielded ops a.tmps)=false):Does P ops Q (.is undef) o a w:=by
 unfold Does;rw [if_neg (by rw [hw];exact Bool.false_ne_true)];exact rfl
theorem Dg {ops:Array Oper} {a:Act} {j t:Nat} {b:Bool} (h1:(ops[j]?).bind (·.dst)=some t) (h2:a.tmps[t]?=some (.bool b)):yielded ops a.tmps j=some b:=by
 unfold yielded;rw [h1]
 show (match a.tmps[t]? with | some (.bool b)=>some b | _=>none)=some b
 rw [h2]
theorem ar {o:Oper} {y:Nat->Option Bool} {j:Nat} {b:Bool} (hg:o.guard=some (j,b)) (hy:y j=some b):Region.wanted o y=true:=by
 unfold Region.wanted;rw [hg]
 show (y j == some b)=true
 rw [hy]
 cases b <;> rfl
theorem tX {o:Oper} {y:Nat->Option Bool} {j:Nat} {b:Bool} (hg:o.guard=some (j,!b)) (hy:y j=some b):Region.wanted o y=false:=by
 unfold Region.wanted;rw [hg]
 show (y j == some (!b))=false
 rw [hy]
 cases b <;> rfl
theorem wr {x:Int} (h1:-9223372036854775808<=x) (h2:x<=9223372036854775807):IntKind.i64.wrap x=x:=by rw [IntKind.wrap_i64];omega
theorem mC {ops:Array Oper} {o:Oper} {a:Act} {w:World} {x:Value} {V:Val} {ob:Obj} (hw:Region.wanted o (yielded ops a.tmps)=true) (h:(execOp a.eval o).run P w=.ok (.value x) (w.alloc ob)) (hV:V.ok x (w.alloc ob)):Does P ops Q V o a w:=by
 unfold Does;rw [if_pos hw];unfold Oper.wp;rw [h];exact ⟨x,rfl,hV,(DE _ _).alloc (DF _) ob⟩
theorem ah {ops:Array Oper} {o:Oper} {a:Act} {w:World} {V:Val} {f:FuncId} {args:Array Value} (hw:Region.wanted o (yielded ops a.tmps)=true) (h:(execOp a.eval o).run P w=.ok (.enter f args) w)
  (hc:Calls P f args w fun e w'=>∃ v,e=.returned v/\V.ok v w'/\Below w.heap.size w w'):Does P ops Q V o a w:=by
 unfold Does;rw [if_pos hw];unfold Oper.wp;rw [h];refine Calls.mono hc ?_;rintro e w' ⟨v,rfl,h1,h2⟩;exact ⟨v,rfl,h1,h2⟩
theorem bV {ops:Array Oper} {o:Oper} {a:Act} {w:World} {v:Value} {f:FuncId} {args:Array Value} (hw:Region.wanted o (yielded ops a.tmps)=true) (h:(execOp a.eval o).run P w=.ok (.enter f args) w)
  (hc:Calls P f args w fun e w'=>e=.returned v/\Below w.heap.size w w'):Does P ops Q (.is v) o a w:=
 ah hw h (hc.mono fun _ _ ⟨e,b⟩=>⟨v,e,rfl,b⟩)
theorem ef (a:Act):∀ f,a.eval (.func f)=.func (.func f) #[] #[]:=fun _=>rfl
theorem ec (a:Act):∀ v,a.eval (.const v)=v:=fun _=>rfl
theorem wo {x:Int} (h:-9223372036854775808<=x/\x<=9223372036854775807):IntKind.i64.wrap x=x:=wr h.1 h.2
end Rg
end
end Go.Proofs.YtkalaljcbmkbmaaGreat
