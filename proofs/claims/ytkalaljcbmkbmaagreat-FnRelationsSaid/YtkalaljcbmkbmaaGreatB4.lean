/-
  Joined texts: contracts and plain lemmas.
-/
import Derived.Test.YtkalaljcbmkbmaaGreatB1
import Derived.Test.YtkalaljcbmkbmaaGreatB3
import Derived.Orders
import Derived.Deep.DeepCutAuto
import Derived.WalkKit
set_option linter.unusedSimpArgs false
set_option linter.unusedVariables false
set_option maxRecDepth 100000
set_option maxHeartbeats 8000000
namespace Go.Proofs.YtkalaljcbmkbmaaGreat
open Tryz
section
open Go.RowKit open Gr M Rw Wh
structure jo (w:World) (b:Nat) (u v x y:Value):Prop where
 c0:w.cell? ⟨b,0,none⟩=some u
 c1:w.cell? ⟨b,1,none⟩=some v
 c2:w.cell? ⟨b,2,none⟩=some x
 c3:w.cell? ⟨b,3,none⟩=some y
 f0:w.frozen? ⟨b,0,none⟩=false
 f1:w.frozen? ⟨b,1,none⟩=false
 f2:w.frozen? ⟨b,2,none⟩=false
 f3:w.frozen? ⟨b,3,none⟩=false
 size:b<w.heap.size
theorem jo.keep {w w':World} {b:Nat} {u v x y:Value} (h:jo w b u v x y) (hb:Below w w w'):jo w' b u v x y:=
 have hg:=bO hb none
 ⟨hg.cell h.c0 σ,hg.cell h.c1 σ,hg.cell h.c2 σ,hg.cell h.c3 σ,(Gr.frozen hg h.size σ).trans h.f0,(Gr.frozen hg h.size σ).trans h.f1,(Gr.frozen hg h.size σ).trans h.f2,(Gr.frozen hg h.size σ).trans h.f3,mE hg h.size⟩
theorem jo.new (w:World) (u v x y:Value) (T:TypeId):jo (w.alloc (.cells #[u,v,x,y] T)) w u v x y:=
 ⟨by rw [World.cell?_alloc_at _ _ _ _ rfl];rfl,by rw [World.cell?_alloc_at _ _ _ _ rfl];rfl,by rw [World.cell?_alloc_at _ _ _ _ rfl];rfl,by rw [World.cell?_alloc_at _ _ _ _ rfl];rfl,by simp [go_sem],by simp [go_sem],by simp [go_sem],by simp [go_sem],by rw [IV];omega⟩
namespace Wh
def eA (x z:Int):Bool:=(decide ((a_ x.natAbs).length<=80) && M.ins (a_ z.natAbs).length 1 80) && !decide (z<0)
theorem tm {x z:Int} (h:¬ (a_ x.natAbs).length<=80):eA x z=false:=by unfold eA;rw [decide_eq_false h];rfl
theorem tn {x z:Int} (h:¬ (a_ z.natAbs).length<=80):eA x z=false:=by
 unfold eA;rw [show M.ins ((a_ z.natAbs).length:Int) 1 80=false by unfold M.ins;simp;omega];simp
end Wh
theorem pm (x z:Int) (vx vz:Value) (w:World) (bx bz:Nat) (hox:aZ w bx vx x) (JD:aZ w bz vz z) (hl1:(Wh.a_ x.natAbs).length<=100000) (hl2:(Wh.a_ z.natAbs).length<=100000) :
  cB 183 #[.agg #[decide (x<0),vx,decide (z<0),vz]] w (eA x z):=by
 obtain ⟨ax,cx,rfl,-,-⟩:=aF.view hox;obtain ⟨az,cz,rfl,-,-⟩:=aF.view JD
 have P1:=fun W (h:aF W bx (.slice ax (Wh.a_ x.natAbs).length cx) (Wh.a_ x.natAbs))=>po x (.slice ax (Wh.a_ x.natAbs).length cx) W bx h hl1
 have P2:=fun W (h:aF W bz (.slice az (Wh.a_ z.natAbs).length cz) (Wh.a_ z.natAbs))=>po z (.slice az (Wh.a_ z.natAbs).length cz) W bz h hl2
 have Mb:Hid (∀ W,Below w w W->aF W bx (.slice ax (Wh.a_ x.natAbs).length cx) (Wh.a_ x.natAbs)):=IU fun W h=>aF.below hox h
 have M6:Hid (∀ W,Below w w W->aF W bz (.slice az (Wh.a_ z.natAbs).length cz) (Wh.a_ z.natAbs)):=IU fun W h=>aF.below JD h
 have hf1:=IU fun h=>tm (x:=x) (z:=z) h
 have hf2:=IU fun h=>tn (x:=x) (z:=z) h
 have hrt:Hid (eA x z=((decide ((Wh.a_ x.natAbs).length<=80) && M.ins (Wh.a_ z.natAbs).length 1 80) && !decide (z<0))):=IU rfl;clear hox JD;generalize Wh.a_ z.natAbs=zs,Wh.a_ x.natAbs=xs,decide (z<0)=s2,decide (x<0)=s1,eA x z=rt at *;generalize zs.length=lz,xs.length=lx at *;have b1:=jo.new w (.bool s1) (.slice ax lx cx) (.bool s2) (.slice az lz cz) 174;have hB:=(IX w w).alloc (IY _) (.cells #[s1,.slice ax lx cx,s2,.slice az lz cz] 174);generalize hw3:w.alloc (.cells #[s1,.slice ax lx cx,s2,.slice az lz cz] 174)=w3 at *;have e0:=b1.c0;have e1:=b1.c1;have e2:=b1.c2;have e3:=b1.c3;have bh:=IU b1;clear b1
 by_cases h1:lx<=400
 ·rw [decide_eq_true h1] at P1
  replace P1:=IU P1
  by_cases h2:lz<=400
  ·rw [decide_eq_true h2] at P2
   replace P2:=IU P2
   by_cases h3:lx<=80
   ·have hd:decide ((lx:Int)<=80)=true:=decide_eq_true ω
    have PI:=fun W=>dV (lz:Int) 1 80 W
    cases hi:M.ins (lz:Int) 1 80
    ·have hr:Hid (rt=false):=IU (by rw [hrt.out,hi,Bool.and_false];rfl)
     rw [hi] at PI;replace PI:=IU PI;go_enter func183,ntmps183
     go_wp2_with (first | (go_at_call 199;with_reducible refine p_ (P1.out _ (Mb.out _ hB)) fun w4 hb4=>?_;have r4:=bh.out.keep hb4;have g0:=r4.c0;have g1:=r4.c1;have g2:=r4.c2;have g3:=r4.c3;have B4:=j_ hB hb4) | (go_at_call 199;with_reducible refine p_ (P2.out _ (M6.out _ B4)) fun w5 hb5=>?_;have r5:=r4.keep hb5;have k0:=r5.c0;have k1:=r5.c1;have k2:=r5.c2;have k3:=r5.c3;have B5:=j_ B4 hb5) | (go_at_call 28;with_reducible refine Id (PI.out _) ?_))
     go_ret;exact ⟨by rw [hr.out] <;> rfl,B5⟩
    have hr:Hid (rt=!s2):=IU (by rw [hrt.out,hi,decide_eq_true h3];rfl);rw [hi] at PI;replace PI:=IU PI;go_enter func183,ntmps183
    go_wp2_with (first | (go_at_call 199;with_reducible refine p_ (P1.out _ (Mb.out _ hB)) fun w4 hb4=>?_;have r4:=bh.out.keep hb4;have g0:=r4.c0;have g1:=r4.c1;have g2:=r4.c2;have g3:=r4.c3;have B4:=j_ hB hb4) | (go_at_call 199;with_reducible refine p_ (P2.out _ (M6.out _ B4)) fun w5 hb5=>?_;have r5:=r4.keep hb5;have k0:=r5.c0;have k1:=r5.c1;have k2:=r5.c2;have k3:=r5.c3;have B5:=j_ B4 hb5) | (go_at_call 28;with_reducible refine Id (PI.out _) ?_))
    go_ret;exact ⟨by rw [hr.out] <;> rfl,B5⟩
   have hd:decide ((lx:Int)<=80)=false:=decide_eq_false ω;have hr:=IU (hf1.out h3);go_enter func183,ntmps183
   go_wp2_with (first | (go_at_call 199;with_reducible refine p_ (P1.out _ (Mb.out _ hB)) fun w4 hb4=>?_;have r4:=bh.out.keep hb4;have g0:=r4.c0;have g1:=r4.c1;have g2:=r4.c2;have g3:=r4.c3;have B4:=j_ hB hb4) | (go_at_call 199;with_reducible refine p_ (P2.out _ (M6.out _ B4)) fun w5 hb5=>?_;have r5:=r4.keep hb5;have k0:=r5.c0;have k1:=r5.c1;have k2:=r5.c2;have k3:=r5.c3;have B5:=j_ B4 hb5))
   go_ret;exact ⟨by rw [hr.out] <;> rfl,B5⟩
  rw [decide_eq_false h2] at P2;replace P2:=IU P2;have hr:=IU (hf2.out ω);go_enter func183,ntmps183
  go_wp2_with (first | (go_at_call 199;with_reducible refine p_ (P1.out _ (Mb.out _ hB)) fun w4 hb4=>?_;have r4:=bh.out.keep hb4;have g0:=r4.c0;have g1:=r4.c1;have g2:=r4.c2;have g3:=r4.c3;have B4:=j_ hB hb4) | (go_at_call 199;with_reducible refine p_ (P2.out _ (M6.out _ B4)) fun w5 hb5=>?_;have r5:=r4.keep hb5;have k0:=r5.c0;have k1:=r5.c1;have k2:=r5.c2;have k3:=r5.c3;have B5:=j_ B4 hb5))
  go_ret;exact ⟨by rw [hr.out] <;> rfl,B5⟩
 rw [decide_eq_false h1] at P1;replace P1:=IU P1;have hr:=IU (hf1.out ω);go_enter func183,ntmps183
 go_wp2_with (first | (go_at_call 199;with_reducible refine p_ (P1.out _ (Mb.out _ hB)) fun w4 hb4=>?_;have r4:=bh.out.keep hb4;have g0:=r4.c0;have g1:=r4.c1;have g2:=r4.c2;have g3:=r4.c3;have B4:=j_ hB hb4))
 go_ret;exact ⟨by rw [hr.out] <;> rfl,B4⟩
theorem uO (x z:Int) (vx vz:Value) (w:World) (bx bz:Nat) (hox:aZ w bx vx x) (JD:aZ w bz vz z) (hl1:(Wh.a_ x.natAbs).length<=100000) (hl2:(Wh.a_ z.natAbs).length<=100000) :
  cB 195 #[.agg #[decide (x<0),vx,decide (z<0),vz]] w (eA x z):=by
 obtain ⟨ax,cx,rfl,-,-⟩:=aF.view hox;obtain ⟨az,cz,rfl,-,-⟩:=aF.view JD
 have P1:=fun W (h:aF W bx (.slice ax (Wh.a_ x.natAbs).length cx) (Wh.a_ x.natAbs))=>sQ x (.slice ax (Wh.a_ x.natAbs).length cx) W bx h hl1
 have P2:=fun W (h:aF W bz (.slice az (Wh.a_ z.natAbs).length cz) (Wh.a_ z.natAbs))=>sQ z (.slice az (Wh.a_ z.natAbs).length cz) W bz h hl2
 have Mb:Hid (∀ W,Below w w W->aF W bx (.slice ax (Wh.a_ x.natAbs).length cx) (Wh.a_ x.natAbs)):=IU fun W h=>aF.below hox h
 have M6:Hid (∀ W,Below w w W->aF W bz (.slice az (Wh.a_ z.natAbs).length cz) (Wh.a_ z.natAbs)):=IU fun W h=>aF.below JD h
 have hf1:=IU fun h=>tm (x:=x) (z:=z) h
 have hf2:=IU fun h=>tn (x:=x) (z:=z) h
 have hrt:Hid (eA x z=((decide ((Wh.a_ x.natAbs).length<=80) && M.ins (Wh.a_ z.natAbs).length 1 80) && !decide (z<0))):=IU rfl;clear hox JD;generalize Wh.a_ z.natAbs=zs,Wh.a_ x.natAbs=xs,decide (z<0)=s2,decide (x<0)=s1,eA x z=rt at *;generalize zs.length=lz,xs.length=lx at *;have b1:=jo.new w (.bool s1) (.slice ax lx cx) (.bool s2) (.slice az lz cz) 174;have hB:=(IX w w).alloc (IY _) (.cells #[s1,.slice ax lx cx,s2,.slice az lz cz] 174);generalize hw3:w.alloc (.cells #[s1,.slice ax lx cx,s2,.slice az lz cz] 174)=w3 at *;have e0:=b1.c0;have e1:=b1.c1;have e2:=b1.c2;have e3:=b1.c3;have bh:=IU b1;clear b1
 by_cases h1:lx<=400
 ·rw [decide_eq_true h1] at P1
  replace P1:=IU P1
  by_cases h2:lz<=400
  ·rw [decide_eq_true h2] at P2
   replace P2:=IU P2
   by_cases h3:lx<=80
   ·have hd:decide ((lx:Int)<=80)=true:=decide_eq_true ω
    have PI:=fun W=>dW (lz:Int) 1 80 W
    cases hi:M.ins (lz:Int) 1 80
    ·have hr:Hid (rt=false):=IU (by rw [hrt.out,hi,Bool.and_false];rfl)
     rw [hi] at PI;replace PI:=IU PI;go_enter func195,ntmps195
     go_wp2_with (first | (go_at_call 203;with_reducible refine p_ (P1.out _ (Mb.out _ hB)) fun w4 hb4=>?_;have r4:=bh.out.keep hb4;have g0:=r4.c0;have g1:=r4.c1;have g2:=r4.c2;have g3:=r4.c3;have B4:=j_ hB hb4) | (go_at_call 203;with_reducible refine p_ (P2.out _ (M6.out _ B4)) fun w5 hb5=>?_;have r5:=r4.keep hb5;have k0:=r5.c0;have k1:=r5.c1;have k2:=r5.c2;have k3:=r5.c3;have B5:=j_ B4 hb5) | (go_at_call 35;with_reducible refine Id (PI.out _) ?_))
     go_ret;exact ⟨by rw [hr.out] <;> rfl,B5⟩
    have hr:Hid (rt=!s2):=IU (by rw [hrt.out,hi,decide_eq_true h3];rfl);rw [hi] at PI;replace PI:=IU PI;go_enter func195,ntmps195
    go_wp2_with (first | (go_at_call 203;with_reducible refine p_ (P1.out _ (Mb.out _ hB)) fun w4 hb4=>?_;have r4:=bh.out.keep hb4;have g0:=r4.c0;have g1:=r4.c1;have g2:=r4.c2;have g3:=r4.c3;have B4:=j_ hB hb4) | (go_at_call 203;with_reducible refine p_ (P2.out _ (M6.out _ B4)) fun w5 hb5=>?_;have r5:=r4.keep hb5;have k0:=r5.c0;have k1:=r5.c1;have k2:=r5.c2;have k3:=r5.c3;have B5:=j_ B4 hb5) | (go_at_call 35;with_reducible refine Id (PI.out _) ?_))
    go_ret;exact ⟨by rw [hr.out] <;> rfl,B5⟩
   have hd:decide ((lx:Int)<=80)=false:=decide_eq_false ω;have hr:=IU (hf1.out h3);go_enter func195,ntmps195
   go_wp2_with (first | (go_at_call 203;with_reducible refine p_ (P1.out _ (Mb.out _ hB)) fun w4 hb4=>?_;have r4:=bh.out.keep hb4;have g0:=r4.c0;have g1:=r4.c1;have g2:=r4.c2;have g3:=r4.c3;have B4:=j_ hB hb4) | (go_at_call 203;with_reducible refine p_ (P2.out _ (M6.out _ B4)) fun w5 hb5=>?_;have r5:=r4.keep hb5;have k0:=r5.c0;have k1:=r5.c1;have k2:=r5.c2;have k3:=r5.c3;have B5:=j_ B4 hb5))
   go_ret;exact ⟨by rw [hr.out] <;> rfl,B5⟩
  rw [decide_eq_false h2] at P2;replace P2:=IU P2;have hr:=IU (hf2.out ω);go_enter func195,ntmps195
  go_wp2_with (first | (go_at_call 203;with_reducible refine p_ (P1.out _ (Mb.out _ hB)) fun w4 hb4=>?_;have r4:=bh.out.keep hb4;have g0:=r4.c0;have g1:=r4.c1;have g2:=r4.c2;have g3:=r4.c3;have B4:=j_ hB hb4) | (go_at_call 203;with_reducible refine p_ (P2.out _ (M6.out _ B4)) fun w5 hb5=>?_;have r5:=r4.keep hb5;have k0:=r5.c0;have k1:=r5.c1;have k2:=r5.c2;have k3:=r5.c3;have B5:=j_ B4 hb5))
  go_ret;exact ⟨by rw [hr.out] <;> rfl,B5⟩
 rw [decide_eq_false h1] at P1;replace P1:=IU P1;have hr:=IU (hf1.out ω);go_enter func195,ntmps195
 go_wp2_with (first | (go_at_call 203;with_reducible refine p_ (P1.out _ (Mb.out _ hB)) fun w4 hb4=>?_;have r4:=bh.out.keep hb4;have g0:=r4.c0;have g1:=r4.c1;have g2:=r4.c2;have g3:=r4.c3;have B4:=j_ hB hb4))
 go_ret;exact ⟨by rw [hr.out] <;> rfl,B4⟩
instance {w w':World} {b:Nat} {u v x y:Value}:HAdd (PLift (jo w b u v x y)) (PLift (Below w w w')) (PLift (jo w' b u v x y)):=⟨fun x h=>⟨x.down.keep h.down⟩⟩
def cH (w:World) (g:Nat) (zs:List Int):Prop:=
 ∀ (k:Nat) (z:Int),zs[k]?=some z->∃ (a:Option Addr) (cap:Nat),w.cell? ⟨g,k*2,none⟩=some (.bool (decide (z<0)))/\w.cell? ⟨g,k*2+1,none⟩=some (.slice a (Wh.a_ z.natAbs).length cap)/\aF w 0 (.slice a (Wh.a_ z.natAbs).length cap) (Wh.a_ z.natAbs)
theorem cH.below {w w':World} {g:Nat} {zs:List Int} (h:cH w g zs) (hb:Below w w w'):cH w' g zs:=fun k z hz=>by
 obtain ⟨a,cap,h1,h2,h3⟩:=h k z hz;exact ⟨a,cap,aE hb h1,aE hb h2,aF.below h3 hb⟩
def Wh.small (z:Int):Prop:=(a_ z.natAbs).length<=9000
theorem mF (zs:List Int) (g cap:Nat) (w:World) (hw:cH w g zs) (hl:zs.length<=100) (hs1:∀ z ∈ zs,Wh.small z) (hs2:∀ k,Wh.small ((zs.take k).foldl (·+·) 0)) :
  Calls prog 178 #[.slice (some ⟨g,0,none⟩) zs.length cap] w fun e w'=>∃ sl,e=.returned (.agg #[decide (zs.foldl (·+·) 0<0),sl])/\aZ w' w sl (zs.foldl (·+·) 0)/\Below w w w':=by
 obtain ⟨T,hT⟩:∃ T,Hid (zs.foldl (·+·) 0=T):=⟨_,IU rfl⟩
 rw [hT.out]
 obtain ⟨sT,QU⟩:∃ s,Hid (decide (T<0)=s):=⟨_,IU rfl⟩
 rw [QU.out];have hw:=IU hw;have hs1:=IU hs1;have hs2:=IU hs2;have b3:=(aw.new w (.bool false) (.slice none 0 0) 116).alloc (.cells #[false,.slice none 0 0] 116);have b4:=aw.new2 w (.cells #[false,.slice none 0 0] 116) (.bool false) (.slice none 0 0) 116;have hB:=((IX w w).alloc (IY _) (.cells #[false,.slice none 0 0] 116)).alloc (by rw [IV];omega) (.cells #[false,.slice none 0 0] 116);generalize hw3:(w.alloc (.cells #[false,.slice none 0 0] 116)).alloc (.cells #[false,.slice none 0 0] 116)=w3 at *;have e0:=b4.c0;have e1:=b4.c1;have e2:=b4.f0;have e3:=b4.f1;go_enter func178,ntmps178
 go_wp2;have q4:=b4.store (.bool false) (.slice none 0 0);have q3:=b3.other (c:=w.heap.size+1) ω (.bool false) (.slice none 0 0);have qB:=(hB.setCell (p:=⟨w.heap.size+1,0,none⟩) (Nat.le_succ _) (.bool false)).setCell (p:=⟨w.heap.size+1,1,none⟩) (Nat.le_succ _) (.slice none 0 0);clear e0 e1 e2 e3
 go_loopw [9] (fun vi wr=>∃ (k:Nat) (a:Option Addr) (cx:Nat),k<=zs.length/\vi=.int .i64 k/\Hid (aw wr (w.heap.size+1) (.bool (decide ((zs.take k).foldl (·+·) 0<0))) (.slice a (Wh.a_ ((zs.take k).foldl (·+·) 0).natAbs).length cx))/\Hid (aw wr w (.bool false) (.slice none 0 0))/\aF wr (w.heap.size+2) (.slice a (Wh.a_ ((zs.take k).foldl (·+·) 0).natAbs).length cx) (Wh.a_ ((zs.take k).foldl (·+·) 0).natAbs)/\Below w w wr) (fun vi _=>zs.length - (intOf vi).toNat)
 case atStart=>exact ⟨0,none,0,Nat.zero_le _,rfl,by simpa [dT] using IU q4,IU q3,by simpa [dT] using aF.nil _ _,qB⟩
 case round=>
 clear b3 b4 hB q3 q4 qB;obtain ⟨k,a,cx,hk,rfl,JN,LX,hown,hbr⟩:=hrel;have c0:=JN.out.c0;have c1:=JN.out.c1;have f0:=JN.out.f0;have f1:=JN.out.f1;have z0:=JN.out.size
 by_cases hlt:k<zs.length
 ·obtain ⟨z,hz⟩:∃ z,zs[k]?=some z:=⟨_,List.getElem?_eq_getElem hlt⟩
  obtain ⟨az,cz,d0,d1,d2⟩:=(hw.out.below hbr) k z hz;have hA:=hs2.out k;have hA2:=hs2.out (k+1);have hzs:=hs1.out z (List.mem_of_getElem? hz)
  have hnx:(zs.take (k+1)).foldl (·+·) 0=(zs.take k).foldl (·+·) 0+z:=by rw [List.take_add_one,hz,List.foldl_append];rfl
  rw [hnx] at hA2;have hnx:=IU hnx;have g0:=LX.out.size;clear hz;generalize (zs.take k).foldl (·+·) 0=A at *;unfold Wh.small at hA hA2 hzs
  have PA:=fun W b1 b2 (h1:aF W b1 (.slice a (Wh.a_ A.natAbs).length cx) (Wh.a_ A.natAbs)) (h2:aF W b2 (.slice az (Wh.a_ z.natAbs).length cz) (Wh.a_ z.natAbs))=>ig A z (.slice a (Wh.a_ A.natAbs).length cx) (.slice az (Wh.a_ z.natAbs).length cz) W b1 b2 h1 h2 ω ω
  generalize A+z=B,decide (z<0)=sz,decide (A<0)=sA at *;generalize hsB:decide (B<0)=sB at *;generalize Wh.a_ z.natAbs=ys,Wh.a_ A.natAbs=xs at *;generalize ys.length=l2,xs.length=l1 at *;replace PA:=IU PA;have ho2:=aF.alloc hown (.cells #[sz,.slice az l2 cz] 116);have hz2:=aF.alloc d2 (.cells #[sz,.slice az l2 cz] 116)
  have bA:=(JN.out.alloc (.cells #[sz,.slice az l2 cz] 116))
  have bZ:=(LX.out.alloc (.cells #[sz,.slice az l2 cz] 116))
  have hB2:=hbr.alloc hbr.size (.cells #[sz,.slice az l2 cz] 116);have hza:(wr.alloc (.cells #[sz,.slice az l2 cz] 116)).heap.size=wr.heap.size+1:=IV _ _;clear d2 hown
  go_wp2_with (go_at_call 89;(with_reducible refine (PA.out _ _ _ ho2 hz2).mono ?_);rintro e w5 ⟨v5,rfl,JU,hb5⟩;obtain ⟨a5,cap5,rfl,N9,hv5⟩:=aF.view JU;have r5:=bA.keep hb5;have k0:=r5.c0;have k1:=r5.c1;have k2:=r5.f0;have k3:=r5.f1;have t5:=bZ.keep hb5;clear hv5 N9)
  have JK:=aF.past (aF.base (base':=w.heap.size+2) JU ω) (Nat.lt_succ_self (w.heap.size+1)) (.bool sB) (.slice a5 (Wh.a_ B.natAbs).length cap5);have Ww:=((j_ hB2 hb5).setCell (p:=⟨w.heap.size+1,0,none⟩) (Nat.le_succ _) (.bool sB)).setCell (p:=⟨w.heap.size+1,1,none⟩) (Nat.le_succ _) (.slice a5 (Wh.a_ B.natAbs).length cap5);have q4:=r5.store (.bool sB) (.slice a5 (Wh.a_ B.natAbs).length cap5);have q3:=t5.other (c:=w.heap.size+1) ω (.bool sB) (.slice a5 (Wh.a_ B.natAbs).length cap5)
  go_roundw
  case rel=>exact ⟨k+1,a5,cap5,ω,ν,by rw [hnx.out,hsB];exact IU q4,IU q3,by rw [hnx.out];exact JK,Ww⟩
  case measure=>simp [intOf];omega
 obtain rfl:k=zs.length:=ω
 rw [List.take_length] at *;have g0:=LX.out.c0;have g1:=LX.out.c1;have g2:=LX.out.f0;have g3:=LX.out.f1;have hr:=dE (w:=w) w _ (.bool sT) (IY _) ω hown hbr;rw [hT.out] at hr c0 c1;rw [QU.out] at c0;generalize (Wh.a_ T.natAbs).length=KH at *;clear hw hs1 hs2 hown JN;go_wp2;exact D_ results178 ⟨_,rfl,hr.1,hr.2⟩
theorem bi (zs:List Int) (g cap:Nat) (w:World) (hw:cH w g zs) (hl:zs.length<=100) (hs1:∀ z ∈ zs,Wh.small z) (hs2:∀ k,Wh.small ((zs.take k).foldl (·*·) 1)) :
  Calls prog 179 #[.slice (some ⟨g,0,none⟩) zs.length cap] w fun e w'=>∃ sl,e=.returned (.agg #[decide (zs.foldl (·*·) 1<0),sl])/\aZ w' w sl (zs.foldl (·*·) 1)/\Below w w w':=by
 obtain ⟨T,hT⟩:∃ T,Hid (zs.foldl (·*·) 1=T):=⟨_,IU rfl⟩
 rw [hT.out]
 obtain ⟨sT,QU⟩:∃ s,Hid (decide (T<0)=s):=⟨_,IU rfl⟩
 rw [QU.out];replace hw:=IU hw;replace hs1:=IU hs1;replace hs2:=IU hs2;have b3:=aw.new w (.bool false) (.slice none 0 0) 116;have hB:=(IX w w).alloc (IY _) (.cells #[false,.slice none 0 0] 116);generalize hw3:w.alloc (.cells #[false,.slice none 0 0] 116)=w3 at *
 have PW:=fun W=>br 1 W ω ω
 rw [decide_eq_false (show ¬ (1:Int)<0 by decide)] at PW;replace PW:=IU PW;have hz3:=b3.size;go_enter func179,ntmps179
 go_wp2_with (go_at_call 88;(with_reducible refine (PW.out _).mono ?_);rintro e w5 ⟨v5,rfl,JU,hb5⟩;obtain ⟨a5,cap5,rfl,N9,hv5⟩:=aF.view JU;clear hv5 N9)
 have q4:=aw.new w5 (.bool false) (.slice a5 (Wh.a_ (1:Int).natAbs).length cap5) 116;have q3:=(b3.keep hb5).alloc (.cells #[false,.slice a5 (Wh.a_ (1:Int).natAbs).length cap5] 116);have B5:=j_ hB hb5;have qB:=B5.alloc B5.size (.cells #[false,.slice a5 (Wh.a_ (1:Int).natAbs).length cap5] 116);have qo:=aF.base (base':=w.heap.size+1) (aF.alloc JU (.cells #[false,.slice a5 (Wh.a_ (1:Int).natAbs).length cap5] 116)) ω
 have ne:(Value.slice a5 (Wh.a_ (1:Int).natAbs).length cap5).ownBlock≠some w5.heap.size:=fun e=>by
  have:=(aF.lt JU _ e).2;omega
 have hzc:w.heap.size<w5.heap.size:=by have:=hb5.size;omega
 generalize hC:w5.heap.size=C at q4 ne hzc ⊢;clear JU b3 hb5 B5
 go_loopw [9] (fun vi wr=>∃ (k:Nat) (a:Option Addr) (cx:Nat),k<=zs.length/\vi=.int .i64 k/\Hid (aw wr C (.bool (decide ((zs.take k).foldl (·*·) 1<0))) (.slice a (Wh.a_ ((zs.take k).foldl (·*·) 1).natAbs).length cx))/\Hid (aw wr w (.bool false) (.slice none 0 0))/\aF wr (w.heap.size+1) (.slice a (Wh.a_ ((zs.take k).foldl (·*·) 1).natAbs).length cx) (Wh.a_ ((zs.take k).foldl (·*·) 1).natAbs)/\Hid ((Value.slice a (Wh.a_ ((zs.take k).foldl (·*·) 1).natAbs).length cx).ownBlock≠some C)/\Below w w wr) (fun vi _=>zs.length - (intOf vi).toNat)
 case atStart=>exact ⟨0,a5,cap5,Nat.zero_le _,rfl,IU q4,IU q3,qo,IU ne,qB⟩
 case round=>
 clear hB q3 q4 qB qo ne;obtain ⟨k,a,cx,hk,rfl,JN,LX,hown,hne,hbr⟩:=hrel;have c0:=JN.out.c0;have c1:=JN.out.c1;have f0:=JN.out.f0;have f1:=JN.out.f1;have z0:=JN.out.size
 by_cases hlt:k<zs.length
 ·obtain ⟨z,hz⟩:∃ z,zs[k]?=some z:=⟨_,List.getElem?_eq_getElem hlt⟩
  obtain ⟨az,cz,d0,d1,d2⟩:=(hw.out.below hbr) k z hz;have hA:=hs2.out k;have hA2:=hs2.out (k+1);have hzs:=hs1.out z (List.mem_of_getElem? hz)
  have hnx:(zs.take (k+1)).foldl (·*·) 1=(zs.take k).foldl (·*·) 1*z:=by rw [List.take_add_one,hz,List.foldl_append];rfl
  rw [hnx] at hA2;have hnx:=IU hnx;have g0:=LX.out.size;clear hz;generalize (zs.take k).foldl (·*·) 1=A at *;unfold Wh.small at hA hA2 hzs
  have PA:=fun W b1 b2 (h1:aF W b1 (.slice a (Wh.a_ A.natAbs).length cx) (Wh.a_ A.natAbs)) (h2:aF W b2 (.slice az (Wh.a_ z.natAbs).length cz) (Wh.a_ z.natAbs))=>dX A z (.slice a (Wh.a_ A.natAbs).length cx) (.slice az (Wh.a_ z.natAbs).length cz) W b1 b2 h1 h2 ω ω
  generalize A*z=B,decide (z<0)=sz,decide (A<0)=sA at *;generalize hsB:decide (B<0)=sB at *;generalize Wh.a_ z.natAbs=ys,Wh.a_ A.natAbs=xs at *;generalize ys.length=l2,xs.length=l1 at *;replace PA:=IU PA;have ho2:=aF.alloc hown (.cells #[sz,.slice az l2 cz] 116);have hz2:=aF.alloc d2 (.cells #[sz,.slice az l2 cz] 116)
  have bA:=(JN.out.alloc (.cells #[sz,.slice az l2 cz] 116))
  have bZ:=(LX.out.alloc (.cells #[sz,.slice az l2 cz] 116))
  have hB2:=hbr.alloc hbr.size (.cells #[sz,.slice az l2 cz] 116);have hza:(wr.alloc (.cells #[sz,.slice az l2 cz] 116)).heap.size=wr.heap.size+1:=IV _ _;clear d2 hown
  go_wp2_with (go_at_call 87;(with_reducible refine (PA.out _ _ _ ho2 hz2).mono ?_);rintro e w6 ⟨v6,rfl,Kx,hb6⟩;obtain ⟨a6,cap6,rfl,XW,hv6⟩:=aF.view Kx;have r5:=bA.keep hb6;have k0:=r5.c0;have k1:=r5.c1;have k2:=r5.f0;have k3:=r5.f1;have t5:=bZ.keep hb6;clear hv6 XW)
  have ne6:(Value.slice a6 (Wh.a_ B.natAbs).length cap6).ownBlock≠some C:=fun e=>by
   have:=(aF.lt Kx _ e).1;omega
  have JK:=fun u v=>World.ownsRow.kept (aF.base (base':=w.heap.size+1) Kx ω) (dI w6 C u v) (Or.inr ne6)
  have Ww:=((j_ hB2 hb6).setCell (p:=⟨C,0,none⟩) (Nat.le_of_lt hzc) (.bool sB)).setCell (p:=⟨C,1,none⟩) (Nat.le_of_lt hzc) (.slice a6 (Wh.a_ B.natAbs).length cap6);have q4:=r5.store (.bool sB) (.slice a6 (Wh.a_ B.natAbs).length cap6);have q3:=t5.other (c:=C) ω (.bool sB) (.slice a6 (Wh.a_ B.natAbs).length cap6)
  go_roundw
  case rel=>exact ⟨k+1,a6,cap6,ω,ν,by rw [hnx.out,hsB];exact IU q4,IU q3,by rw [hnx.out];exact JK _ _,by rw [hnx.out];exact IU ne6,Ww⟩
  case measure=>simp [intOf];omega
 obtain rfl:k=zs.length:=ω
 rw [List.take_length] at *;have g0:=LX.out.c0;have g1:=LX.out.c1;have g2:=LX.out.f0;have g3:=LX.out.f1;have hr:=dE (w:=w) w _ (.bool sT) (IY _) ω hown hbr;rw [hT.out] at hr c0 c1;rw [QU.out] at c0;generalize (Wh.a_ T.natAbs).length=KH at *;clear hw hs1 hs2 hown JN hne;go_wp2;exact D_ results179 ⟨_,rfl,hr.1,hr.2⟩
end
section
open Gr M Rw Wh
namespace Wh
def sz (z:Int) (n:Nat):Prop:=z.natAbs<10000 ^ n
theorem aR {z:Int} {n:Nat}:(a_ z.natAbs).length<=n ↔ sz z n:=by
 constructor
 ·intro h
  have h1:=k8 h;have h2:((10000 ^ n:Nat):Int)=(10000:Int) ^ n:=Int.natCast_pow 10000 n;unfold sz;generalize (10000:Int) ^ n=P at *;generalize 10000 ^ n=Q at *;omega
 intro h;exact dw h
theorem aL {z:Int} {m n:Nat} (h:sz z m) (hmn:m<=n):sz z n:=Nat.lt_of_lt_of_le h (Nat.pow_le_pow_right δ hmn)
theorem ah {x y:Int} {m n:Nat} (hx:sz x m) (hy:sz y n):sz (x*y) (m+n):=by
 unfold sz at *;rw [Int.natAbs_mul,Nat.pow_add];exact Nat.mul_lt_mul'' hx hy
theorem jI {x y:Int} {n:Nat} (hx:sz x n) (hy:sz y n):sz (x+y) (n+1):=by
 unfold sz at *;rw [Nat.pow_succ];have:=Int.natAbs_add_le x y;have hp:0<10000 ^ n:=Nat.pow_pos δ;omega
theorem lX {x:Int} {n:Nat} (hx:sz x n):sz (-x) n:=by unfold sz at *;rwa [Int.natAbs_neg]
theorem rh {x y:Int} {n:Nat} (hx:sz x n) (hy:sz y n):sz (x - y) (n+1):=by
 rw [Int.sub_eq_add_neg];exact jI hx (lX hy)
theorem ce {z:Int} {n:Nat} (h:sz z n) (hn:n<=9000):small z:=Nat.le_trans (aR.2 h) hn
theorem Cf:sz 1 1:=by unfold sz;decide
theorem Ea:sz 0 1:=by unfold sz;decide
theorem be {n:Int} (h1:-1000000000000000000<=n) (h2:n<=1000000000000000000):sz n 5:=by
 unfold sz
 have:(10000:Nat) ^ 5=100000000000000000000:=δ
 omega
theorem xZ:∀ (zs:List Int) (m:Nat),(∀ z ∈ zs,sz z m)->∀ (a:Int) (n:Nat),sz a n->sz (zs.foldl (·*·) a) (n+zs.length*m)
 | [],m,_,a,n,h=>by simpa using h
 | z :: zs,m,hz,a,n,h=>by
  rw [List.foldl_cons,List.length_cons,show n+(zs.length+1)*m=(n+m)+zs.length*m by rw [Nat.succ_mul];omega];exact xZ zs m (fun y hy=>hz y (List.mem_cons_of_mem _ hy)) _ _ (ah h (hz z List.mem_cons_self))
theorem kk {zs:List Int} {m:Nat} (h:∀ z ∈ zs,sz z m) (k:Nat):sz ((zs.take k).foldl (·*·) 1) (1+zs.length*m):=by
 have:=xZ (zs.take k) m (fun z hz=>h z (List.mem_of_mem_take hz)) 1 1 Cf;refine aL this ?_
 have:(zs.take k).length<=zs.length:=by rw [List.length_take];omega
 have:=Nat.mul_le_mul_right m this;omega
theorem Cg:∀ (zs:List Int) (m:Nat),(∀ z ∈ zs,sz z m)->∀ (a:Int) (n:Nat),m<=n->sz a n->sz (zs.foldl (·+·) a) (n+zs.length)
 | [],m,_,a,n,_,h=>by simpa using h
 | z :: zs,m,hz,a,n,hmn,h=>by
  rw [List.foldl_cons,List.length_cons,show n+(zs.length+1)=(n+1)+zs.length by omega];exact Cg zs m (fun y hy=>hz y (List.mem_cons_of_mem _ hy)) _ _ ω (jI h (aL (hz z List.mem_cons_self) hmn))
theorem rj {zs:List Int} {m:Nat} (h:∀ z ∈ zs,sz z m) (hm:1<=m) (k:Nat):sz ((zs.take k).foldl (·+·) 0) (m+zs.length):=by
 have:=Cg (zs.take k) m (fun z hz=>h z (List.mem_of_mem_take hz)) 0 m (IY _) (aL Ea hm);refine aL this ?_
 have:(zs.take k).length<=zs.length:=by rw [List.length_take];omega
 omega
def ai (a b x z:Int):Int:=x*x*x*x - 2*a*x*x*z*z - 8*b*x*z*z*z+a*a*z*z*z*z
def ae (a b x z:Int):Int:=4*z*(x*x*x+a*x*z*z+b*z*z*z)
theorem yz (a b x z:Int):[[x,x,x,x].foldl (·*·) 1,[-2*a,x,x,z,z].foldl (·*·) 1,[-8*b,x,z,z,z].foldl (·*·) 1,[a*a,z,z,z,z].foldl (·*·) 1].foldl (·+·) 0=ai a b x z:=by
 simp only [List.foldl_cons,List.foldl_nil];unfold ai
 grind
theorem uG (a b x z:Int):((x*x*(x*x) - x*x*(z*z)*(2*a)) - x*z*(z*z)*(8*b))+z*z*(z*z)*(a*a)=ai a b x z:=by
 unfold ai
 grind
theorem xm (a b x z:Int):[4,z,[[x,x,x].foldl (·*·) 1,[a,x,z,z].foldl (·*·) 1,[b,z,z,z].foldl (·*·) 1].foldl (·+·) 0].foldl (·*·) 1=ae a b x z:=by
 simp only [List.foldl_cons,List.foldl_nil];unfold ae
 grind
theorem sU (a b x z:Int):z*(x*x*x+x*(z*z)*a+z*(z*z)*b)*4=ae a b x z:=by
 unfold ae
 grind
end Wh
end
section
open Go.RowKit open Gr M Rw Wh
theorem er (a:Int) (va:Value) (w:World) (ba:Nat) (hoa:aZ w ba va a) (hl1:(Wh.a_ a.natAbs).length<=10000) :
  Calls prog 187 #[.agg #[decide (a<0),va]] w fun e w'=>∃ sl,e=.returned (.agg #[decide (a*a<0),sl])/\aZ w' w sl (a*a)/\Below w w w':=by
 obtain ⟨aa,s_,rfl,-,-⟩:=aF.view hoa
 have PA:=fun W (h1:aF W ba (.slice aa (Wh.a_ a.natAbs).length s_) (Wh.a_ a.natAbs))=>fR a a (.slice aa (Wh.a_ a.natAbs).length s_) (.slice aa (Wh.a_ a.natAbs).length s_) W ba ba h1 h1 hl1 hl1
 replace hoa:=IU (show aF _ _ _ _ from hoa);generalize Wh.a_ a.natAbs=xs,a*a=z,decide (a<0)=s1 at *;generalize decide (z<0)=s,xs.length=l1 at *;replace PA:=IU PA;have n1:=(aw.new w (.bool s1) (.slice aa l1 s_) 116).alloc (.cells #[false,.slice none 0 0] 116);have n3:=aw.new2 w (.cells #[s1,.slice aa l1 s_] 116) (.bool false) (.slice none 0 0) 116;have Bn:=((IX w w).alloc (IY _) (.cells #[s1,.slice aa l1 s_] 116)).alloc (by rw [IV];omega) (.cells #[false,.slice none 0 0] 116);have ho3:=aF.alloc (aF.alloc hoa.out (.cells #[s1,.slice aa l1 s_] 116)) (.cells #[false,.slice none 0 0] 116);generalize hw3:(w.alloc (.cells #[s1,.slice aa l1 s_] 116)).alloc (.cells #[false,.slice none 0 0] 116)=w3 at *;have e1:=n1.c0;have e2:=n1.c1;go_enter func187,ntmps187
 go_wp2_with (go_at_call 189;(with_reducible refine (PA.out _ ho3).mono ?_);rintro e w5 ⟨vc,rfl,hoc,hbc⟩;obtain ⟨ac,Ic,rfl,hmc,I8⟩:=aF.view hoc;have r5:=n3.keep hbc;have c0:=r5.c0;have c1:=r5.c1;have g0:=r5.f0;have g1:=r5.f1;clear I8 hmc)
 have hr:=dE (w:=w) (w.heap.size+1) _ (.bool s) ω n3.size hoc (j_ Bn hbc);generalize (Wh.a_ z.natAbs).length=KH at *;exact D_ results187 ⟨_,rfl,hr.1,hr.2⟩
theorem Ct (x z:Int) (vx vz:Value) (w:World) (bx bz:Nat) (hox:aZ w bx vx x) (JD:aZ w bz vz z) (hl1:(Wh.a_ x.natAbs).length<=9000) (hl2:(Wh.a_ z.natAbs).length<=9000) (hb1:Wh.bl x.natAbs<=1000000) (hb2:Wh.bl z.natAbs<=1000000) :
  cB 163 #[.agg #[decide (x<0),vx,decide (z<0),vz]] w (.int .i64 (max (Wh.bl x.natAbs:Nat) (Wh.bl z.natAbs:Nat):Int)):=by
 obtain ⟨ax,cx,rfl,-,-⟩:=aF.view hox;obtain ⟨az,cz,rfl,-,-⟩:=aF.view JD
 have P1:=fun W (h:aF W bx (.slice ax (Wh.a_ x.natAbs).length cx) (Wh.a_ x.natAbs))=>nK x (.slice ax (Wh.a_ x.natAbs).length cx) W bx h hl1 hb1
 have P2:=fun W (h:aF W bz (.slice az (Wh.a_ z.natAbs).length cz) (Wh.a_ z.natAbs))=>nK z (.slice az (Wh.a_ z.natAbs).length cz) W bz h hl2 hb2
 have PM:=fun W=>fE (Wh.bl x.natAbs:Int) (Wh.bl z.natAbs:Int) W
 have Mb:Hid (∀ W,Below w w W->aF W bx (.slice ax (Wh.a_ x.natAbs).length cx) (Wh.a_ x.natAbs)):=IU fun W h=>aF.below hox h
 have M6:Hid (∀ W,Below w w W->aF W bz (.slice az (Wh.a_ z.natAbs).length cz) (Wh.a_ z.natAbs)):=IU fun W h=>aF.below JD h
 clear hox JD;generalize max (Wh.bl x.natAbs:Int) (Wh.bl z.natAbs:Int)=mx at *;generalize Wh.a_ z.natAbs=zs,Wh.a_ x.natAbs=xs,decide (z<0)=s2,decide (x<0)=s1,Wh.bl z.natAbs=k2,Wh.bl x.natAbs=k1 at *;generalize zs.length=lz,xs.length=lx at *;replace P1:=IU P1;replace P2:=IU P2;replace PM:=IU PM;have b1:=jo.new w (.bool s1) (.slice ax lx cx) (.bool s2) (.slice az lz cz) 174;have hB:=(IX w w).alloc (IY _) (.cells #[s1,.slice ax lx cx,s2,.slice az lz cz] 174);generalize hw3:w.alloc (.cells #[s1,.slice ax lx cx,s2,.slice az lz cz] 174)=w3 at *;have e0:=b1.c0;have e1:=b1.c1;have e2:=b1.c2;have e3:=b1.c3;go_enter func163,ntmps163
 go_wp2
 go_region_held3 (fun W=>W.cell? ⟨w,0,none⟩=some (.bool s1)/\W.cell? ⟨w,1,none⟩=some (.slice ax lx cx)/\W.cell? ⟨w,2,none⟩=some (.bool s2)/\W.cell? ⟨w,3,none⟩=some (.slice az lz cz)) (first | exact ⟨hlA,hlA,hlA,hlA⟩ | (go_split_ands;exact ⟨hlA,hlA,hlA,hlA⟩) | go_keep) ((first
  | (go_at_call 175;first
   | ((with_reducible refine (P1.out _ (Mb.out _ hB.drew)).mono ?_);rintro e w4 ⟨rfl,hb4⟩;have Ou:=aE hb4 (ag e0);have KA:=aE hb4 (ag e1);have Kq:=aE hb4 (ag e2);have MJ:=aE hb4 (ag e3);have B4:=hB.drew.trans (hb4.mono hB.size))
   | ((with_reducible refine (P2.out _ (M6.out _ B4)).mono ?_);rintro e w5 ⟨rfl,hb5⟩;have y0_:=aE hb5 Ou;have Mu:=aE hb5 KA;have Nf:=aE hb5 Kq;have Q4:=aE hb5 MJ;have B5:=j_ B4 hb5))
  | (go_at_call 94;with_reducible refine Id (PM.out _) ?_)
  | fail "ARMS"))
 all_goals
  go_wp2;go_ret;exact ⟨rfl,B5⟩
theorem IF {w2:World} {sl:Value} {xs:List Int} (c base:Nat) (u v x y:Value) (h2:c<base) (hoc:aF w2 base sl xs) :
  aF ((((w2.setCell ⟨c,0,none⟩ u).setCell ⟨c,1,none⟩ v).setCell ⟨c,2,none⟩ x).setCell ⟨c,3,none⟩ y) base sl xs:=by
 refine World.ownsRow.kept hoc (Gr.set (Gr.set (dI w2 c u v) 2 x) 3 y) ?_
 cases hs:sl.ownBlock with
 | none=>exact Or.inl rfl
 | some g=>
 right
 intro e
 injection e with e
 have:=(aF.lt hoc g hs).1;omega
theorem Gx (n d:Int) (w:World) (hn1:-1000000000000000000<=n) (hn2:n<=1000000000000000000) (hd1:-1000000000000000000<=d) (hd2:d<=1000000000000000000) :
  Calls prog 172 #[n,d] w fun e w'=>∃ vx vz,e=.returned (.agg #[decide (n<0),vx,decide (d<0),vz])/\aZ w' w vx n/\aZ w' w vz d/\Below w w w':=by
 have PN:=IU fun W=>nL n W hn1 hn2
 have PD:=IU fun W=>nL d W hd1 hd2
 have b0:=jo.new w (.bool false) (.slice none 0 0) (.bool false) (.slice none 0 0) 174;have hB:=(IX w w).alloc (IY _) (.cells #[false,.slice none 0 0,false,.slice none 0 0] 174);generalize decide (d<0)=s2,decide (n<0)=s1 at *;generalize hw3:w.alloc (.cells #[false,.slice none 0 0,false,.slice none 0 0] 174)=w3 at *;go_enter func172,ntmps172
 go_wp2_with (go_at_call 177;first
  | ((with_reducible refine (PN.out _).mono ?_);rintro e w4 ⟨vx,rfl,hox,hbx⟩;obtain ⟨ax,Pk,rfl,hmx,hvx⟩:=aF.view hox;clear hmx hvx;replace hox:=IU hox;have b4:=b0.keep hbx;have B4:=j_ hB hbx)
  | ((with_reducible refine (PD.out _).mono ?_);rintro e w5 ⟨vz,rfl,JD,hbz⟩;obtain ⟨az,Pl,rfl,hmz,hvz⟩:=aF.view JD;clear hmz hvz;have b5:=b4.keep hbz;have B5:=j_ B4 hbz;have XZ:=aF.below hox.out hbz;have c0:=b5.c0;have c1:=b5.c1;have c2:=b5.c2;have c3:=b5.c3;have f0:=b5.f0;have f1:=b5.f1;have f2:=b5.f2;have f3:=b5.f3))
 have h3:=b0.size;have h4:=b4.size;have r1:=aF.base (IF w _ (.bool s1) (.slice ax (Wh.a_ n.natAbs).length Pk) (.bool s2) (.slice az (Wh.a_ d.natAbs).length Pl) ω XZ) (Nat.le_of_lt h3);have r2:=aF.base (IF w _ (.bool s1) (.slice ax (Wh.a_ n.natAbs).length Pk) (.bool s2) (.slice az (Wh.a_ d.natAbs).length Pl) ω JD) (Nat.le_of_lt h4)
 have r3:Below w w ((((w5.setCell ⟨w,0,none⟩ (.bool s1)).setCell ⟨w,1,none⟩ (.slice ax (Wh.a_ n.natAbs).length Pk)).setCell ⟨w,2,none⟩ (.bool s2)).setCell ⟨w,3,none⟩ (.slice az (Wh.a_ d.natAbs).length Pl)):=by
  refine IW (IW (IW (IW B5 ?_ _) ?_ _) ?_ _) ?_ _ <;> exact IY _
 generalize (Wh.a_ d.natAbs).length=ld,(Wh.a_ n.natAbs).length=ln at *;exact D_ results172 ⟨_,_,rfl,r1,r2,r3⟩
theorem pc (a b:Int) (w:World) (h:ay a b=true) :
  cB 116 #[.agg #[a,b]] w (.int .i64 (aO a b)):=by
 obtain ⟨h1,h1',h2,h2'⟩:=aW h;have b1:=aH (x:=4*a) (y:=a) (m:=4000) (n:=1000);have b2:=aH (x:=4*a*a) (y:=a) (m:=4000000) (n:=1000);have b3:=aH (x:=27*b) (y:=b) (m:=270000) (n:=10000);go_enter func116,ntmps116
 go_wp2;go_ret;exact ⟨rfl,((IX w w).alloc (IY _) _)⟩
theorem fy {a b:Int} (h:ay a b=true):(aO a b).natAbs<=6700000000:=by
 obtain ⟨h1,h1',h2,h2'⟩:=aW h;have b1:=aH (x:=4*a) (y:=a) (m:=4000) (n:=1000);have b2:=aH (x:=4*a*a) (y:=a) (m:=4000000) (n:=1000);have b3:=aH (x:=27*b) (y:=b) (m:=270000) (n:=10000);unfold aO;omega
theorem iL {a b:Int} (h:M.good a b=true):aO a b≠0:=by
 unfold M.good at h;simp only [Bool.and_eq_true,bne_iff_ne] at h;exact h.2
theorem mH (a b t u:Int) (vt vu:Value) (w:World) (bt bu:Nat) (hg:M.good a b=true) (hot:aZ w bt vt t) (hou:aZ w bu vu u) (hl1:(Wh.a_ t.natAbs).length<=9000) (hl2:(Wh.a_ u.natAbs).length<=9000) :
  cB 193 #[.agg #[a,b],.agg #[decide (t<0),vt],.agg #[decide (u<0),vu]] w (.int .i64 (M.gcd (M.gcd (4*((aO a b).natAbs:Int)) (t % (4*((aO a b).natAbs:Int)))) (u % (4*((aO a b).natAbs:Int))))):=by
 obtain ⟨at_,ct,rfl,-,-⟩:=aF.view hot;obtain ⟨au,cu,rfl,-,-⟩:=aF.view hou;have hin:=aY hg;have hdb:=fy hin;have hdn:=iL hg
 have hdp:1<=(aO a b).natAbs:=ω
 have PD:=fun W=>pc a b W hin
 have PA:=fun W=>df (aO a b) W ω ω
 clear hin hg hdn;generalize aO a b=D at *;generalize hd:D.natAbs=d at *
 have P1:=fun W (h:aF W bt (.slice at_ (Wh.a_ t.natAbs).length ct) (Wh.a_ t.natAbs))=>fp t (4*(d:Int)) (.slice at_ (Wh.a_ t.natAbs).length ct) W bt h hl1 ω ω
 have P2:=fun W (h:aF W bu (.slice au (Wh.a_ u.natAbs).length cu) (Wh.a_ u.natAbs))=>fp u (4*(d:Int)) (.slice au (Wh.a_ u.natAbs).length cu) W bu h hl2 ω ω
 have r1:=Int.emod_nonneg t (b:=4*(d:Int)) ω;have r2:=Int.emod_lt_of_pos t (b:=4*(d:Int)) ω;have r3:=Int.emod_nonneg u (b:=4*(d:Int)) ω;have r4:=Int.emod_lt_of_pos u (b:=4*(d:Int)) ω;generalize t % (4*(d:Int))=x at *;generalize u % (4*(d:Int))=y at *
 have PG:=fun (m n:Int) W (h1:0<=m) (h2:m<=9000000000000000000) (h3:0<=n) (h4:n<=9000000000000000000)=>dR m n W h1 h2 h3 h4
 have g0:0<=M.gcd (4*(d:Int)) x:=by unfold M.gcd;omega
 have g1:M.gcd (4*(d:Int)) x<=26800000000:=by
  have en:(4*(d:Int)).natAbs=4*d:=ω
  have:=Nat.gcd_le_left x.natAbs (show 0<4*d by omega);unfold M.gcd Int.gcd;rw [en];omega
 have hOT:Hid (∀ W,Below w w W->aF W bt (.slice at_ (Wh.a_ t.natAbs).length ct) (Wh.a_ t.natAbs)):=IU fun W h=>aF.below hot h
 have hOU:Hid (∀ W,Below w w W->aF W bu (.slice au (Wh.a_ u.natAbs).length cu) (Wh.a_ u.natAbs)):=IU fun W h=>aF.below hou h
 clear hot hou hl1 hl2;generalize decide (u<0)=s2,decide (t<0)=s1 at *;generalize decide (t / (4*(d:Int))<0)=s3 at *;generalize decide (u / (4*(d:Int))<0)=s4 at *;generalize t / (4*(d:Int))=qt at *;generalize u / (4*(d:Int))=qu at *;generalize Wh.a_ u.natAbs=us,Wh.a_ t.natAbs=ts at *;generalize us.length=lu,ts.length=lt at *;replace PD:=IU PD;replace PA:=IU PA;replace P1:=IU P1;replace P2:=IU P2;replace PG:=IU PG;have b1:=((aw.new w (.int .i64 a) (.int .i64 b) 25).alloc (.cells #[s1,.slice at_ lt ct] 116)).alloc (.cells #[s2,.slice au lu cu] 116);have b2:=(aw.new2 w (.cells #[a,b] 25) (.bool s1) (.slice at_ lt ct) 116).alloc (.cells #[s2,.slice au lu cu] 116);have b3:=aw.new (((w.alloc (.cells #[a,b] 25)).alloc (.cells #[s1,.slice at_ lt ct] 116))) (.bool s2) (.slice au lu cu) 116;rw [gy] at b3;have hB:=(((IX w w).alloc (IY _) (.cells #[a,b] 25)).alloc (by rw [IV];omega) (.cells #[s1,.slice at_ lt ct] 116)).alloc (by rw [gy];omega) (.cells #[s2,.slice au lu cu] 116)
 have hz:(((w.alloc (.cells #[a,b] 25)).alloc (.cells #[s1,.slice at_ lt ct] 116)).alloc (.cells #[s2,.slice au lu cu] 116)).heap.size=w.heap.size+3:=by rw [IV,gy]
 generalize hw3:((w.alloc (.cells #[a,b] 25)).alloc (.cells #[s1,.slice at_ lt ct] 116)).alloc (.cells #[s2,.slice au lu cu] 116)=w3 at *;have e0:=b1.c0;have e1:=b1.c1;go_enter func193,ntmps193
 go_wp2_with (first
  | (go_at_call 116;with_reducible refine p_ (PD.out _) fun w4 hb4=>?_;have x2:=b2.keep hb4;have x3:=b3.keep hb4;have B4:=j_ hB hb4;have f1:=x2.c0;have f2:=x2.c1)
  | (go_at_call 53;with_reducible refine Id (PA.out _) ?_)
  | (go_at_call 194;first
   | ((with_reducible refine (P1.out _ (hOT.out _ B4)).mono ?_);rintro e w6 ⟨vq,rfl,hoq,hbq⟩;obtain ⟨aq,cq,rfl,MQ,KE⟩:=aF.view hoq;clear MQ KE hoq;(generalize (Wh.a_ qt.natAbs).length=lq at *);have x6:=x3.keep hbq;have B6:=j_ B4 hbq;have x7:=x6.alloc (.cells #[s3,.slice aq lq cq] 116);have B7:=B6.alloc B6.size (.cells #[s3,.slice aq lq cq] 116);(have f3:(w6.alloc (.cells #[s3,.slice aq lq cq] 116)).cell? ⟨w.heap.size+1+1,0,none⟩=some (.bool s2):=x7.c0);(have f4:(w6.alloc (.cells #[s3,.slice aq lq cq] 116)).cell? ⟨w.heap.size+1+1,1,none⟩=some (.slice au lu cu):=x7.c1))
   | ((with_reducible refine (P2.out _ (hOU.out _ B7)).mono ?_);rintro e w8 ⟨vp,rfl,hop,hbp⟩;obtain ⟨ap,cp,rfl,hmp,hvp⟩:=aF.view hop;clear hmp hvp hop;(generalize (Wh.a_ qu.natAbs).length=lp at *);have B8:=j_ B7 hbp;have B9:=B8.alloc B8.size (.cells #[s4,.slice ap lp cp] 116)))
  | (go_at_call 52;first
   | (with_reducible refine Id (PG.out (4*(d:Int)) x _ ω ω ω ω) ?_)
   | ((with_reducible refine (PG.out (M.gcd (4*(d:Int)) x) y _ ω ω ω ω).mono ?_);rintro e w9 ⟨rfl,rfl⟩))
  | fail "ARMS")
 go_ret;exact ⟨rfl,B9⟩
theorem jo.alloc {w:World} {b:Nat} {u v x y:Value} (h:jo w b u v x y) (o:Obj):jo (w.alloc o) b u v x y:=h.keep ((IX w w).alloc (IY _) o)
def zR (B:Nat) (W:World) (p u v:Value):Prop:=∃ g,p=.pointer (some ⟨g,0,none⟩)/\B<=g/\aw W g u v
theorem zR.keep {B:Nat} {W W':World} {p u v:Value} (h:zR B W p u v) (hb:Below W W W'):zR B W' p u v:=by
 obtain ⟨g,e,hB,h⟩:=h;exact ⟨g,e,hB,h.keep hb⟩
end
section
open Go
namespace Rg
variable {P:Program} {Q:Exit->Act->World->Prop} {md:Region.Mode}
def fill (l:Nat->Bool) (vals:Nat->Value):List Oper->Nat->Act->Act
 | [],_,a=>a
 | o :: os,k,a=>fill l vals os (k+1) (if l k then a.put o.dst (vals k) else a)
def sep (o x:Oper):Bool:=match o.dst with | some d=>x.dst != some d | none=>true
def apart:List Oper->Bool
 | []=>true
 | o :: os=>os.all (sep o) && apart os
theorem bD:(∀ (α:Type) (a:α) (l:List α) (n:Nat),(a :: l).take (n+1)=a :: l.take n)/\(∀ (α:Type) (l:List α),l.take 0=[])/\(∀ (α:Type) (a:α) (l:List α) (n:Nat),(a :: l).drop (n+1)=l.drop n)/\(∀ (α:Type) (l:List α),l.drop 0=l)/\(∀ (α:Type) [Decidable True] (a b:α),(if True then a else b)=a)/\(∀ (α:Type) (l:List α) (i:Nat) (a:α),l.toArray.setIfInBounds i a=(l.set i a).toArray)/\(∀ (α:Type) (x a:α) (l:List α),(x :: l).set 0 a=a :: l)/\(∀ (α:Type) (x a:α) (l:List α) (n:Nat),(x :: l).set (n+1) a=x :: l.set n a)/\∀ n:Nat,0+n=n:=
 ⟨fun _ _ _ _=>List.take_succ_cons,fun _ _=>List.take_zero,fun _ _ _ _=>List.drop_succ_cons,fun _ _=>List.drop_zero,fun _ _ _ _=>if_true ..,fun _ _ _ _=>List.setIfInBounds_toArray ..,fun _ _ _ _=>List.set_cons_zero,fun _ _ _ _ _=>List.set_cons_succ,Nat.zero_add⟩
theorem bR {l l':Nat->Bool} {v v':Nat->Value}:∀ (os:List Oper) (k:Nat) (a:Act),(∀ j,k<=j->j<k+os.length->l j=l' j)->(∀ j,k<=j->l j=true->v j=v' j)->fill l v os k a=fill l' v' os k a
 | [],_,_,_,_=>rfl
 | o :: os,k,a,h1,h2=>by
  unfold fill;rw [←h1 k (IY _) σ]
  cases hl:l k
  ·simp only [Bool.false_eq_true,if_false]
   exact bR os (k+1) a (fun j hj hj2=>h1 j ω (by simp;omega)) (fun j hj=>h2 j ω)
  simp only [if_true];rw [h2 k (IY _) hl];exact bR os (k+1) _ (fun j hj hj2=>h1 j ω (by simp;omega)) (fun j hj=>h2 j ω)
theorem so {l:Nat->Bool} {v:Nat->Value} {d:Option Tmp} {u:Value}:∀ (os:List Oper) (k:Nat) (a:Act),(∀ x ∈ os,∀ t,d=some t->x.dst≠some t)->(fill l v os k a).put d u=fill l v os k (a.put d u)
 | [],_,_,_=>rfl
 | o :: os,k,a,h=>by
  unfold fill;rw [so os (k+1) _ (fun x hx=>h x (List.mem_cons_of_mem _ hx))]
  congr 1
  split
  ·exact (Act.put_comm a u (v k) (h o (List.mem_cons_self ..))).symm
  rfl
theorem kI {l:Nat->Bool} {v:Nat->Value} {u:Value}:∀ (os:List Oper) (k i:Nat) (o:Oper) (a:Act),apart os=true->os[i]?=some o->l (k+i)=false->
  (fill l v os k a).put o.dst u=fill (fun j=>if j=k+i then true else l j) (fun j=>if j=k+i then u else v j) os k a
 | [],_,_,_,_,_,h,_=>by simp at h
 | x :: os,k,0,o,a,ha,h,hl=>by
  simp only [List.getElem?_cons_zero,Option.some.injEq] at h;subst h;rw [apart,Bool.and_eq_true] at ha
  have hs:∀ y ∈ os,∀ t,x.dst=some t->y.dst≠some t:=fun y hy t ht=>by
   have:=List.all_eq_true.1 ha.1 y hy;rw [sep,ht] at this
   simpa using this
  unfold fill;rw [Nat.add_zero] at hl ⊢;rw [so os (k+1) _ hs,if_neg (by simp [hl])]
  have e:(if (if k=k then true else l k)=true then a.put x.dst (if k=k then u else v k) else a)=a.put x.dst u:=σ
  show _=fill _ _ os (k+1) (if (if k=k then true else l k)=true then a.put x.dst (if k=k then u else v k) else a)
  rw [e];exact bR os (k+1) _ (fun j hj _=>by rw [if_neg ω]) (fun j hj _=>by rw [if_neg ω])
 | x :: os,k,i+1,o,a,ha,h,hl=>by
  rw [apart,Bool.and_eq_true] at ha;rw [show k+(i+1)=k+1+i from ω] at hl ⊢;unfold fill;rw [kI os (k+1) i o _ ha.2 (by simpa using h) hl]
  congr 1
  rw [if_neg (show ¬ k=k+1+i by omega),if_neg (show ¬ k=k+1+i by omega)]
theorem tg (a:Act) (d:Option Tmp) (v:Value):(a.put d v).tmps.size=a.tmps.size:=by
 cases d <;> simp [Act.put]
theorem EB {a:Act} {d:Option Tmp} {v:Value} {t:Nat} (h:d≠some t):(a.put d v).tmps[t]?=a.tmps[t]?:=by
 cases d with
 | none=>rfl
 | some d=>simp only [Act.put];rw [Array.getElem?_setIfInBounds_ne (by intro e;exact h (by rw [e]))]
theorem rS {a:Act} {v:Value} {t:Nat} (h:t<a.tmps.size):(a.put (some t) v).tmps[t]?=some v:=by
 simp [Act.put,h]
theorem f8 {l:Nat->Bool} {v:Nat->Value} {t:Nat}:∀ (os:List Oper) (k:Nat) (a:Act),(∀ i o,os[i]?=some o->l (k+i)=true->o.dst≠some t)->(fill l v os k a).tmps[t]?=a.tmps[t]?
 | [],_,_,_=>rfl
 | o :: os,k,a,h=>by
  unfold fill;rw [f8 os (k+1) _ (fun i x hx hl=>h (i+1) x (by simpa using hx) (by rw [show k+(i+1)=k+1+i from ω];exact hl))]
  split
  ·rename_i hk
   exact EB (h 0 o rfl hk)
  rfl
theorem mS {l:Nat->Bool} {v:Nat->Value} {t:Nat}:∀ (os:List Oper) (k i:Nat) (o:Oper) (a:Act),apart os=true->os[i]?=some o->l (k+i)=true->o.dst=some t->t<a.tmps.size->(fill l v os k a).tmps[t]?=some (v (k+i))
 | [],_,_,_,_,_,h,_,_,_=>by simp at h
 | x :: os,k,0,o,a,ha,h,hl,hd,ht=>by
  simp only [List.getElem?_cons_zero,Option.some.injEq] at h;subst h;rw [apart,Bool.and_eq_true] at ha;unfold fill;rw [Nat.add_zero] at hl ⊢
  rw [f8 os (k+1) _ (fun i y hy _=>by
   have:=List.all_eq_true.1 ha.1 y (List.mem_of_getElem? hy);rw [sep,hd] at this
   simpa using this),if_pos hl,hd]
  exact rS ht
 | x :: os,k,i+1,o,a,ha,h,hl,hd,ht=>by
  rw [apart,Bool.and_eq_true] at ha;rw [show k+(i+1)=k+1+i from ω] at hl ⊢;unfold fill;refine mS os (k+1) i o _ ha.2 (by simpa using h) hl hd ?_
  split
  ·rw [tg];exact ht
  exact ht
def left (l:Nat->Bool):Nat->Nat
 | 0=>0
 | n+1=>left l n+if l n then 0 else 1
theorem pt {l l':Nat->Bool}:∀ n:Nat,(∀ j,j<n->l j=l' j)->left l n=left l' n
 | 0,_=>rfl
 | n+1,h=>by unfold left;rw [pt n (fun j hj=>h j ω),h n ω]
theorem i8 {l l':Nat->Bool} {i:Nat} (h0:l i=false) (h1:l' i=true) (h2:∀ j,j≠i->l' j=l j):∀ n:Nat,i<n->left l' n+1=left l n
 | 0,h=>ω
 | n+1,h=>by
  unfold left
  rcases Nat.lt_or_ge i n with q | q
  ·have:=i8 h0 h1 h2 n q
   rw [h2 n ω];omega
  obtain rfl:i=n:=ω
  rw [pt i (l:=l') (l':=l) (fun j hj=>h2 j ω),h0,h1];simp
theorem ge {l:Nat->Bool}:∀ n:Nat,left l n=0->∀ j,j<n->l j=true
 | 0,_,j,hj=>ω
 | n+1,h,j,hj=>by
  unfold left at h
  cases hn:l n
  ·rw [hn] at h;simp at h
  rcases Nat.lt_or_ge j n with q | q
  ·exact ge n ω j q
  obtain rfl:j=n:=ω
  exact hn
def rd (md:Region.Mode) (ops:Array Oper) (a0:Act) (vals:Nat->Value) (o:Oper) (t:Nat):Option Value:=
 match o.after.toList.find? (fun e=>Region.binds md e && ((ops[e.on]?).bind (·.dst)) == some t) with
 | some e=>some (vals e.on)
 | none=>a0.tmps[t]?
def iO (md:Region.Mode) (ops:Array Oper) (i:Nat) (o:Oper) (t:Nat):Bool:=
 o.after.toList.any (fun e=>Region.binds md e && ((ops[e.on]?).bind (·.dst)) == some t) ||
 (List.range ops.size).all fun j=>match ops[j]? with
  | some x=>x.dst != some t || j == i || x.after.toList.any (fun e=>Region.binds md e && e.on == i)
  | none=>true
def Du (md:Region.Mode) (ops:Array Oper):Bool:=(List.range ops.size).all fun i=>match ops[i]? with
 | some o=>(o.looksAt ops).all (iO md ops i o)
 | none=>true
def d6 (md:Region.Mode) (ops:Array Oper) (n:Nat):Bool:=
 apart ops.toList && Du md ops && ((List.range ops.size).all fun i=>match ops[i]? with
  | some o=>o.after.toList.all (fun e=>!Region.binds md e || decide (e.on<i)) && (match o.dst with | some d=>decide (d<n) | none=>true)
  | none=>true)
section
variable (P) (Q) (md) (ops:Array Oper) (S:World->Prop) (V:Nat->Value->World->Prop) (a0:Act)
def Fg (i:Nat) (o:Oper) (a:Act) (w:World):Prop:=
 if Region.wanted o (yielded ops a.tmps)=true then o.wp P a w (fun a' w'=>∃ v,a'=a.put o.dst v/\V i v w'/\S w'/\∀ j u,V j u w->V j u w') Q else V i undef w
def Req (i:Nat) (o:Oper):Prop:=∀ (a:Act) (w:World) (vals:Nat->Value),S w->(∀ e ∈ o.after,Region.binds md e=true->V e.on (vals e.on) w)->(∀ t ∈ o.looksAt ops,a.tmps[t]?=rd md ops a0 vals o t)->Fg P Q ops S V i o a w
def uS:List Oper->Nat->Prop
 | [],_=>True
 | o :: os,k=>Req P Q md ops S V a0 k o/\uS os (k+1)
theorem uS.at {os:List Oper} {k:Nat} (h:uS P Q md ops S V a0 os k):∀ {i:Nat} {o:Oper},os[i]?=some o->Req P Q md ops S V a0 (k+i) o:=by
 induction os generalizing k with
 | nil=>intro i o hi;simp at hi
 | cons x os ih=>
 intro i o hi
 cases i with
 | zero=>
  simp only [List.getElem?_cons_zero,Option.some.injEq] at hi;subst hi;exact h.1
 | succ i=>
 have:=ih h.2 (i:=i) (o:=o) (by simpa using hi);rw [show k+(i+1)=k+1+i from ω];exact this
def Inv (L:Array Bool) (a:Act) (w:World):Prop:=
 L.size=ops.size/\S w/\(∀ i o,ops[i]?=some o->L.getD i false=true->∀ e ∈ o.after,Region.binds md e=true->L.getD e.on false=true)/\
 ∃ vals:Nat->Value,a=fill (fun j=>L.getD j false) vals ops.toList 0 a0/\∀ i,i<ops.size->L.getD i false=true->V i (vals i) w
end
theorem Cs {ops:Array Oper} {S:World->Prop} {V:Nat->Value->World->Prop} {a0:Act} (hok:d6 md ops a0.tmps.size=true)
  (hR:uS P Q md ops S V a0 ops.toList 0) (hF:∀ (vals:Nat->Value) (w:World),S w->(∀ i,i<ops.size->V i (vals i) w)->Q .normal (fill (fun _=>true) vals ops.toList 0 a0) w) :
  ∀ (fuel:Nat) (L:Array Bool) (a:Act) (w:World),left (fun j=>L.getD j false) ops.size<=fuel->Inv md ops S V a0 L a w->wpAny P md ops Q fuel L a w:=by
 rw [d6,Bool.and_eq_true,Bool.and_eq_true] at hok;obtain ⟨⟨hap,hrd⟩,hac⟩:=hok
 have Ja:∀ i o,ops[i]?=some o->(∀ e ∈ o.after,Region.binds md e=true->e.on<i)/\∀ d,o.dst=some d->d<a0.tmps.size:=fun i o hi=>by
  have hlt:i<ops.size:=(Array.getElem?_eq_some_iff.1 hi).1;have:=List.all_eq_true.1 hac i (List.mem_range.2 hlt);rw [hi] at this;simp only [Bool.and_eq_true,List.all_eq_true,Bool.or_eq_true,Bool.not_eq_true',decide_eq_true_eq] at this;refine ⟨fun e he hb=>?_,fun d hd=>?_⟩
  ·rcases this.1 e (Array.mem_toList_iff.2 he) with q | q
   ·rw [hb] at q;cases q
   exact q
  have:=this.2;rw [hd] at this
  simpa using this
 have htl:∀ i,ops.toList[i]?=ops[i]?:=fun i=>Array.getElem?_toList
 have hall:∀ L:Array Bool,L.size=ops.size->Region.ready md ops L=[]->∀ i,i<ops.size->L.getD i false=true:=by
  intro L hL hr i
  induction i using Nat.strongRecOn with
  | ind i ih=>
  intro hi
  cases hl:L.getD i false
  ·exfalso
   have hm:i ∈ Region.ready md ops L:=by
    unfold Region.ready;rw [List.mem_filter];refine ⟨List.mem_range.2 hi,?_⟩
    have hg:L.getD i true=false:=by
     rw [Array.getD_eq_getD_getElem?,Array.getElem?_eq_getElem ω] at hl ⊢;exact hl
    rw [hg,Array.getElem?_eq_getElem hi];simp only [Bool.not_false,Bool.true_and,Option.map_some,Option.getD_some];rw [Array.all_eq_true_iff_forall_mem];intro e he
    cases hb:Region.binds md e
    ·rfl
    have hlt:=(Ja i _ (Array.getElem?_eq_getElem hi)).1 e he hb;simp [ih e.on hlt ω]
   rw [hr] at hm;cases hm
  rfl
 have hfin:∀ (L:Array Bool) (a:Act) (w:World),Inv md ops S V a0 L a w->Region.ready md ops L=[]->Q .normal a w:=by
  rintro L a w ⟨hL,hS,-,vals,rfl,hv⟩ hr;have h:=hall L hL hr;rw [bR (l':=fun _=>true) (v':=vals) ops.toList 0 a0 (fun j _ hj=>h j (by simpa using hj)) (fun _ _ _=>rfl)]
  exact hF vals w hS fun i hi=>hv i hi (h i hi)
 intro fuel
 induction fuel with
 | zero=>
  intro L a w hl hI;have hz:=ge _ (Nat.le_zero.1 hl)
  have hr:Region.ready md ops L=[]:=by
   unfold Region.ready;rw [List.filter_eq_nil_iff];intro i hi;have hi:=List.mem_range.1 hi;have h1:=hz i hi
   have hg:L.getD i true=true:=by
    have hsz:=hI.1;simp only [Array.getD_eq_getD_getElem?] at h1 ⊢;rw [Array.getElem?_eq_getElem ω] at h1 ⊢;exact h1
   rw [hg];simp
  exact ⟨hr,hfin L a w hI hr⟩
 | succ fuel ih=>
 intro L a w hl hI;refine ⟨hfin L a w hI,fun i hi=>?_⟩;obtain ⟨hL,hS,hdc,vals,rfl,hv⟩:=hI;obtain ⟨hun,o,ho,La⟩:=mem_ready.1 hi;have hilt:i<ops.size:=(Array.getElem?_eq_some_iff.1 ho).1
 have hun':L.getD i false=false:=by
  simp only [Array.getD_eq_getD_getElem?] at hun ⊢;rw [Array.getElem?_eq_getElem ω] at hun ⊢;exact hun
 have hq:=uS.at P Q md ops S V a0 hR (i:=i) (o:=o) (by rw [htl];exact ho);rw [Nat.zero_add] at hq
 have hst:=hq (fill (fun j=>L.getD j false) vals ops.toList 0 a0) w vals hS
  (fun e he hb=>hv e.on (by have:=(Ja i o ho).1 e he hb;omega) (La e he hb))
  (fun t ht=>by
   unfold rd
   have hr1:iO md ops i o t=true:=by
    have:=List.all_eq_true.1 hrd i (List.mem_range.2 hilt);rw [ho] at this;exact List.all_eq_true.1 this t ht
   cases hf:o.after.toList.find? (fun e=>Region.binds md e && ((ops[e.on]?).bind (·.dst)) == some t) with
   | some e=>
    have h1:=List.find?_some hf;have h2:=List.mem_of_find?_eq_some hf;rw [Bool.and_eq_true,beq_iff_eq] at h1;obtain ⟨x,hx,hxd⟩:=Option.bind_eq_some_iff.1 h1.2;have h3:=La e (Array.mem_toList_iff.1 h2) h1.1;have:=mS (l:=fun j=>L.getD j false) (v:=vals) ops.toList 0 e.on x a0 hap (by rw [htl];exact hx) (by simpa using h3) hxd ((Ja e.on x hx).2 t hxd);rw [Nat.zero_add] at this;exact this
   | none=>
   refine f8 ops.toList 0 a0 fun j x hx hlj hxd=>?_
   rw [Nat.zero_add] at hlj;rw [htl] at hx;have hjlt:j<ops.size:=(Array.getElem?_eq_some_iff.1 hx).1;rw [iO,Bool.or_eq_true] at hr1
   rcases hr1 with q | q
   ·obtain ⟨e,he,hp⟩:=List.any_eq_true.1 q
    have:=List.find?_eq_none.1 hf e he;exact this hp
   have:=List.all_eq_true.1 q j (List.mem_range.2 hjlt);rw [hx] at this;simp only [Bool.or_eq_true,bne_iff_ne,ne_eq,beq_iff_eq,List.any_eq_true,Bool.and_eq_true] at this
   rcases this with (q1 | q1) | ⟨e,he,hb,hon⟩
   ·exact q1 hxd
   ·subst q1
    rw [hun'] at hlj;cases hlj
   have:=hdc j x hx hlj e (Array.mem_toList_iff.1 he) hb;rw [hon,hun'] at this
   cases this)
 have hnext:∀ (v:Value) (w':World),V i v w'->S w'->(∀ j u,V j u w->V j u w')->wpAny P md ops Q fuel (L.setIfInBounds i true) ((fill (fun j=>L.getD j false) vals ops.toList 0 a0).put o.dst v) w':=by
  intro v w' h1 h2 h3
  have e1:∀ j,(L.setIfInBounds i true).getD j false=if j=i then true else L.getD j false:=fun j=>by
   simp only [Array.getD_eq_getD_getElem?]
   by_cases hji:j=i
   ·subst hji
    rw [Array.getElem?_setIfInBounds_self_of_lt ω];simp
   rw [Array.getElem?_setIfInBounds_ne (fun e=>hji e.symm),if_neg hji]
  refine ih _ _ _ ?_ ⟨by simpa using hL,h2,?_,fun j=>if j=i then v else vals j,?_,?_⟩
  ·have:=i8 (l:=fun j=>L.getD j false) (l':=fun j=>(L.setIfInBounds i true).getD j false) hun' (by rw [e1,if_pos rfl]) (fun j hj=>by rw [e1,if_neg hj]) ops.size hilt
   omega
  ·intro j x hx hlj e he hb
   rw [e1] at hlj ⊢
   split
   ·rfl
   split at hlj
   ·rename_i hji
    subst hji;rw [ho] at hx;cases hx
    exact La e he hb
   exact hdc j x hx hlj e he hb
  ·rw [kI ops.toList 0 i o a0 hap (by rw [htl];exact ho) (by simpa using hun')]
   rw [Nat.zero_add];exact bR _ _ _ (fun j _ _=>(e1 j).symm) (fun _ _ _=>rfl)
  intro j hj hlj;rw [e1] at hlj
  show V j (if j=i then v else vals j) w'
  split
  ·rename_i hji
   rw [hji];exact h1
  rename_i hji
  rw [if_neg hji] at hlj;exact h3 _ _ (hv j hj hlj)
 unfold wpOp;rw [ho];unfold Fg at hst
 dsimp only
 split at hst
 ·rename_i hw
  rw [if_pos hw];refine Or.inl (Oper.wp_mono ?_ hst);rintro a' w' ⟨v,rfl,h1,h2,h3⟩;exact hnext v w' h1 h2 h3
 rename_i hw
 rw [if_neg hw]
 exact hnext undef w hst hS fun _ _ h=>h
theorem region {id:Nat} {ops:Array Oper} {a0:Act} {w:World} (S:World->Prop) (V:Nat->Value->World->Prop) (hm:P.follows .mixedOrders=true) (hok:d6 .any ops a0.tmps.size=true)
  (hS:S { w with drawn:=w.drawn+1 }) (hR:uS P Q .any ops S V a0 ops.toList 0)
  (hF:∀ (vals:Nat->Value) (w:World),S w->(∀ i,i<ops.size->V i (vals i) w)->Q .normal (fill (fun _=>true) vals ops.toList 0 a0) w):(Code.region id ops true).wp P Q a0 w:=by
 have rep:∀ j,(Array.replicate ops.size false).getD j false=false:=fun j=>by
  rw [Array.getD_eq_getD_getElem?,Array.getElem?_replicate]
  split <;> rfl
 refine wp_region_any hm (Cs hok hR hF _ _ _ _ ?_ ⟨σ,hS,?_,fun _=>undef,?_,?_⟩)
 ·have:∀ (l:Nat->Bool) n,left l n<=n:=fun l n=>by
   induction n with
   | zero=>exact IY _
   | succ n ih=>unfold left;split <;> omega
  exact this _ _
 ·intro i o hi hl
  rw [rep] at hl;cases hl
 ·have:∀ (v:Nat->Value) (os:List Oper) (k:Nat) (a:Act),fill (fun _=>false) v os k a=a:=fun v os=>by
   induction os with
   | nil=>intro k a;rfl
   | cons x os ih=>intro k a;unfold fill;simp [ih]
  refine (this _ ops.toList 0 a0).symm.trans (bR _ _ _ (fun j _ hj=>(rep j).symm) (fun _ _ _=>rfl))
 intro i hi hl;rw [rep] at hl;cases hl
end Rg
end
section
open Go Go.RowKit open M Rg
namespace Rg
inductive Val where
 | is (v:Value)
 | lit (xs:List Int)
 | num (p:Int->Prop)
 | such (p:Value->Prop)
 | at (p:Value->World->Prop)
 | new (B:Nat) (T:TypeId) (xs:Array Value)
def HC (v:Value) (xs:List Int) (w:World):Prop:=∃ b,v=.slice (some ⟨b,0,none⟩) xs.length xs.length/\b<w.heap.size/\∀ (j:Nat) (x:Int),xs[j]?=some x->w.cell? ⟨b,j,none⟩=some (.int .i64 x)
def Val.ok:Val->Value->World->Prop
 | .is x,v,_=>v=x
 | .lit xs,v,w=>HC v xs w
 | .num p,v,_=>∃ x,v=.int .i64 x/\p x
 | .such p,v,_=>p v
 | .at p,v,w=>∀ w',Below w w w'->p v w'
 | .new B T xs,v,w=>∃ g,B<=g/\v=.pointer (some ⟨g,0,none⟩)/\w.heap[g]?=some (.cells xs T (0,0))
theorem Val.keep {w w':World} (hb:Below w w w'):∀ (T:Val) (v:Value),T.ok v w->T.ok v w'
 | .is _,_,h=>h
 | .lit xs,_,⟨b,h1,h2,h3⟩=>⟨b,h1,Nat.lt_of_lt_of_le h2 hb.size,fun j x hx=>(hb.cell (p:=⟨b,j,none⟩) h2).trans (h3 j x hx)⟩
 | .num _,_,h=>h
 | .such _,_,h=>h
 | .at _,_,h=>fun w'' h2=>h w'' (j_ hb h2)
 | .new _ _ _,_,⟨g,hB,e,h⟩=>⟨g,hB,e,(hb.block g (Array.getElem?_eq_some_iff.1 h).1).trans h⟩
def JP (T:List Val) (i:Nat):Val:=T.getD i (.is undef)
variable {P:Program} {Q:Exit->Act->World->Prop}
def qM (ops:Array Oper) (a0:Act) (T:List Val) (o:Oper) (a:Act) (w:World) (t:Nat):Prop:=
 match o.after.toList.find? (fun e=>Region.binds .any e && ((ops[e.on]?).bind (·.dst)) == some t) with
 | some e=>∃ v,a.tmps[t]?=some v/\(JP T e.on).ok v w
 | none=>a.tmps[t]?=a0.tmps[t]?
def Does (P:Program) (ops:Array Oper) (Q:Exit->Act->World->Prop) (V:Val) (o:Oper) (a:Act) (w:World):Prop:=
 if Region.wanted o (yielded ops a.tmps)=true then o.wp P a w (fun a' w'=>∃ v,a'=a.put o.dst v/\V.ok v w'/\Below w w w') Q else V.ok undef w
theorem ev {a:Act} {t:Nat} {v:Value} (h:a.tmps[t]?=some v):a.eval (.tmp t)=v:=by
 show a.tmps.getD t undef=v
 rw [Array.getD_eq_getD_getElem?,h];rfl
theorem t_ {a:Act} {t:Nat} {x:Value} {w:World} (h:∃ v,a.tmps[t]?=some v/\(Val.is x).ok v w):a.tmps[t]?=some x:=by
 obtain ⟨v,h1,rfl⟩:=h;exact h1
theorem aU {ops:Array Oper} {o:Oper} {a:Act} {w:World} {x:Value} (hw:Region.wanted o (yielded ops a.tmps)=true) (h:(execOp a.eval o).run P w=.ok (.value x) w):Does P ops Q (.is x) o a w:=by
 unfold Does;rw [if_pos hw];unfold Oper.wp;rw [h];exact ⟨x,rfl,rfl,IX _ _⟩
theorem FM {ops:Array Oper} {o:Oper} {a:Act} {w:World} (hw:Region.wanted o (yielded ops a.tmps)=false):Does P ops Q (.is undef) o a w:=by
 unfold Does;rw [if_neg (by rw [hw];exact Bool.false_ne_true)];exact rfl
theorem Jd {ops:Array Oper} {a:Act} {j t:Nat} {b:Bool} (h1:(ops[j]?).bind (·.dst)=some t) (h2:a.tmps[t]?=some (.bool b)):yielded ops a.tmps j=some b:=by
 unfold yielded;rw [h1]
 show (match a.tmps[t]? with | some (.bool b)=>some b | _=>none)=some b
 rw [h2]
theorem bf {o:Oper} {y:Nat->Option Bool} {j:Nat} {b:Bool} (hg:o.guard=some (j,b)) (hy:y j=some b):Region.wanted o y=true:=by
 unfold Region.wanted;rw [hg]
 show (y j == some b)=true
 rw [hy]
 cases b <;> rfl
theorem xf {o:Oper} {y:Nat->Option Bool} {j:Nat} {b:Bool} (hg:o.guard=some (j,!b)) (hy:y j=some b):Region.wanted o y=false:=by
 unfold Region.wanted;rw [hg]
 show (y j == some (!b))=false
 rw [hy]
 cases b <;> rfl
theorem wr {x:Int} (h1:-9223372036854775808<=x) (h2:x<=9223372036854775807):IntKind.i64.wrap x=x:=by rw [IntKind.wrap_i64];omega
theorem oO {ops:Array Oper} {o:Oper} {a:Act} {w:World} {x:Value} {V:Val} {ob:Obj} (hw:Region.wanted o (yielded ops a.tmps)=true) (h:(execOp a.eval o).run P w=.ok (.value x) (w.alloc ob)) (hV:V.ok x (w.alloc ob)):Does P ops Q V o a w:=by
 unfold Does;rw [if_pos hw];unfold Oper.wp;rw [h];exact ⟨x,rfl,hV,(IX _ _).alloc (IY _) ob⟩
theorem af {ops:Array Oper} {o:Oper} {a:Act} {w:World} {V:Val} {f:FuncId} {args:Array Value} (hw:Region.wanted o (yielded ops a.tmps)=true) (h:(execOp a.eval o).run P w=.ok (.enter f args) w)
  (hc:Calls P f args w fun e w'=>∃ v,e=.returned v/\V.ok v w'/\Below w w w'):Does P ops Q V o a w:=by
 unfold Does;rw [if_pos hw];unfold Oper.wp;rw [h];refine Calls.mono hc ?_;rintro e w' ⟨v,rfl,h1,h2⟩;exact ⟨v,rfl,h1,h2⟩
theorem bp {ops:Array Oper} {o:Oper} {a:Act} {w:World} {v:Value} {f:FuncId} {args:Array Value} (hw:Region.wanted o (yielded ops a.tmps)=true) (h:(execOp a.eval o).run P w=.ok (.enter f args) w)
  (hc:Calls P f args w fun e w'=>e=.returned v/\Below w w w'):Does P ops Q (.is v) o a w:=
 af hw h (hc.mono fun _ _ ⟨e,b⟩=>⟨v,e,rfl,b⟩)
theorem ef (a:Act):∀ f,a.eval (.func f)=.func (.func f) #[] #[]:=fun _=>rfl
theorem ec (a:Act):∀ v,a.eval (.const v)=v:=fun _=>rfl
theorem wo {x:Int} (h:-9223372036854775808<=x/\x<=9223372036854775807):IntKind.i64.wrap x=x:=wr h.1 h.2
end Rg
namespace Rg
variable {P:Program} {Q:Exit->Act->World->Prop} {md:Region.Mode}
def Ob (md:Region.Mode) (ops:Array Oper):Nat->Nat->Nat->Bool
 | 0,_,_=>false
 | f+1,i,j=>match ops[i]? with
  | some o=>o.after.toList.any (fun e=>Region.binds md e && e.on == j) || o.after.toList.any (fun e=>Region.binds md e && Ob md ops f e.on j)
  | none=>false
def lY (md:Region.Mode) (ops:Array Oper) (n0:Nat):Bool:=decide (n0<=ops.size) && (List.range ops.size).all fun i=>decide (i<n0) || ((match ops[i]? with | some o=>o.guard.isNone | none=>true) && (List.range i).all fun j=>Ob md ops 3 i j)
def aV (P:Program) (Q:Exit->Act->World->Prop):List Oper->Act->World->Prop
 | [],a,w=>Q .normal a w
 | o :: os,a,w=>o.wp P a w (fun a' w'=>aV P Q os a' w') Q
theorem nI {ops:Array Oper} {L:Array Bool} (hdc:∀ i o,ops[i]?=some o->L.getD i false=true->∀ e ∈ o.after,Region.binds md e=true->L.getD e.on false=true):∀ (f i j:Nat) (o:Oper),ops[i]?=some o->
  (∀ e ∈ o.after,Region.binds md e=true->L.getD e.on false=true)->Ob md ops f i j=true->L.getD j false=true
 | 0,_,_,_,_,_,h=>by simp [Ob] at h
 | f+1,i,j,o,ho,hd,h=>by
  unfold Ob at h;rw [ho] at h;simp only [Bool.or_eq_true,List.any_eq_true,Bool.and_eq_true,beq_iff_eq] at h
  rcases h with ⟨e,he,hb,rfl⟩ | ⟨e,he,hb,ha⟩
  ·exact hd e (Array.mem_toList_iff.1 he) hb
  have hde:=hd e (Array.mem_toList_iff.1 he) hb
  cases ho2:ops[e.on]? with
  | none=>
   exfalso
   cases f with
   | zero=>simp [Ob] at ha
   | succ f=>unfold Ob at ha;rw [ho2] at ha;exact absurd ha σ
  | some o2=>exact nI hdc f e.on j o2 ho2 (hdc e.on o2 ho2 hde) ha
theorem qH {ops:Array Oper} {n0:Nat} (ht:lY md ops n0=true):n0<=ops.size/\∀ i,i<ops.size->n0<=i->(∀ o,ops[i]?=some o->o.guard=none)/\∀ j,j<i->Ob md ops 3 i j=true:=by
 rw [lY,Bool.and_eq_true] at ht;refine ⟨of_decide_eq_true ht.1,fun i hi hn=>?_⟩;have:=List.all_eq_true.1 ht.2 i (List.mem_range.2 hi);simp only [Bool.or_eq_true,decide_eq_true_eq,Bool.and_eq_true,List.all_eq_true,List.mem_range] at this
 rcases this with q | ⟨q1,q2⟩
 ·omega
 refine ⟨fun o ho=>?_,q2⟩;rw [ho] at q1;exact Option.isNone_iff_eq_none.1 q1
theorem wU {L:Array Bool} {i:Nat} (h:i<L.size):L.getD i true=L.getD i false:=by
 simp only [Array.getD_eq_getD_getElem?];rw [Array.getElem?_eq_getElem h];rfl
theorem vW {ops:Array Oper} {n0:Nat} (ht:lY md ops n0=true) (hac:∀ i o,ops[i]?=some o->∀ e ∈ o.after,Region.binds md e=true->e.on<i) :
  ∀ (fuel:Nat) (L:Array Bool) (a:Act) (w:World) (k:Nat),n0<=k->k<=ops.size->L.size=ops.size->(∀ j,j<ops.size->L.getD j false=decide (j<k))->
  ops.size - k<=fuel->aV P Q (ops.toList.drop k) a w->wpAny P md ops Q fuel L a w:=by
 obtain ⟨-,htl⟩:=qH ht
 have SV:∀ (L:Array Bool) (k:Nat),n0<=k->(∀ j,j<ops.size->L.getD j false=decide (j<k))->L.size=ops.size->∀ i,i ∈ Region.ready md ops L->i=k/\i<ops.size:=by
  intro L k hk hL hsz i hi;obtain ⟨hun,o,ho,La⟩:=mem_ready.1 hi;have hilt:i<ops.size:=(Array.getElem?_eq_some_iff.1 ho).1;rw [wU ω,hL i hilt,decide_eq_false_iff_not] at hun;refine ⟨?_,hilt⟩
  rcases Nat.lt_or_ge k i with q | q
  ·exfalso
   have hdc:∀ i o,ops[i]?=some o->L.getD i false=true->∀ e ∈ o.after,Region.binds md e=true->L.getD e.on false=true:=by
    intro i' o' ho' hl' e he hb;have hi':i'<ops.size:=(Array.getElem?_eq_some_iff.1 ho').1;rw [hL i' hi',decide_eq_true_eq] at hl';have:=hac i' o' ho' e he hb;rw [hL e.on ω,decide_eq_true_eq];omega
   have:=nI hdc 3 i k o ho La ((htl i hilt ω).2 k q);rw [hL k ω,decide_eq_true_eq] at this;omega
  omega
 have hend:∀ (L:Array Bool) (a:Act) (w:World) (k:Nat),n0<=k->k<=ops.size->L.size=ops.size->(∀ j,j<ops.size->L.getD j false=decide (j<k))->aV P Q (ops.toList.drop k) a w->Region.ready md ops L=[]->Q .normal a w:=by
  intro L a w k hk hk2 hsz hL h hr
  have hks:k=ops.size:=by
   rcases Nat.lt_or_ge k ops.size with q | q
   ·exfalso
    have hm:k ∈ Region.ready md ops L:=by
     refine mem_ready.2 ⟨?_,_,Array.getElem?_eq_getElem q,fun e he hb=>?_⟩
     ·rw [wU ω,hL k q]
      simp
     have:=hac k _ (Array.getElem?_eq_getElem q) e he hb;rw [hL e.on ω,decide_eq_true_eq];exact this
    rw [hr] at hm;cases hm
   omega
  subst hks;rw [List.drop_eq_nil_of_le σ] at h;exact h
 intro fuel
 induction fuel with
 | zero=>
  intro L a w k hk hk2 hsz hL hf h
  have hr:Region.ready md ops L=[]:=by
   rw [List.eq_nil_iff_forall_not_mem];intro i hi;have:=SV L k hk hL hsz i hi;omega
  exact ⟨hr,hend L a w k hk hk2 hsz hL h hr⟩
 | succ fuel ih=>
 intro L a w k hk hk2 hsz hL hf h;refine ⟨hend L a w k hk hk2 hsz hL h,fun i hi=>?_⟩;obtain ⟨rfl,hilt⟩:=SV L k hk hL hsz i hi;have ho:ops[i]?=some ops[i]:=Array.getElem?_eq_getElem hilt
 have hdr:ops.toList.drop i=ops[i] :: ops.toList.drop (i+1):=by
  rw [List.drop_eq_getElem_cons (by simpa using hilt)];simp
 rw [hdr] at h;unfold wpOp;rw [ho]
 dsimp only
 have hg:=(htl i hilt hk).1 _ ho
 have hw:Region.wanted ops[i] (yielded ops a.tmps)=true:=by
  unfold Region.wanted;rw [hg]
 rw [if_pos hw];refine Or.inl (Oper.wp_mono ?_ h);intro a' w' h';refine ih _ a' w' (i+1) ω ω (by simpa using hsz) (fun j hj=>?_) ω h';simp only [Array.getD_eq_getD_getElem?]
 by_cases hji:j=i
 ·subst hji
  rw [Array.getElem?_setIfInBounds_self_of_lt ω];simp
 rw [Array.getElem?_setIfInBounds_ne (fun e=>hji e.symm)];have:=hL j hj;simp only [Array.getD_eq_getD_getElem?] at this;rw [this,decide_eq_decide];omega
theorem wh {l:Nat->Bool} {k:Nat}:∀ n:Nat,(∀ j,j<n->l j=decide (j<k))->left l n=n - min k n
 | 0,_=>by simp [left]
 | n+1,h=>by
  unfold left;rw [wh n (fun j hj=>h j ω),h n ω]
  by_cases q:n<k
  ·rw [decide_eq_true q,if_pos rfl]
   omega
  rw [decide_eq_false q,if_neg δ];omega
theorem lF {l:Nat->Bool} {v:Nat->Value}:∀ (os:List Oper) (k m:Nat) (a:Act),(∀ j,k<=j->j<k+os.length->l j=decide (j<k+m))->fill l v os k a=fill (fun _=>true) v (os.take m) k a
 | [],k,m,a,_=>by rw [List.take_nil];rfl
 | o :: os,k,0,a,h=>by
  rw [List.take_zero];unfold fill
  rw [h k (IY _) σ,decide_eq_false ω,if_neg δ,lF os (k+1) 0 a (fun j h1 h2=>by
   rw [h j ω (by simp;omega),decide_eq_decide]
   omega),List.take_zero]
  rfl
 | o :: os,k,m+1,a,h=>by
  rw [List.take_succ_cons];unfold fill;rw [h k (IY _) σ,decide_eq_true ω,if_pos rfl]
  exact lF os (k+1) m _ fun j h1 h2=>by
   rw [h j ω (by simp;omega),decide_eq_decide];omega
section
variable (P) (Q) (md) (ops:Array Oper) (S:World->Prop) (V:Nat->Value->World->Prop) (a0:Act) (fr:Nat->Bool)
def zO (i:Nat) (o:Oper) (a:Act) (w:World):Prop:=
 if Region.wanted o (yielded ops a.tmps)=true then o.wp P a w (fun a' w'=>∃ v,a'=a.put o.dst v/\V i v w'/\S w'/\(∀ j u,V j u w->V j u w')/\(fr i=true->∀ j u,fr j=true->V j u w->u≠v)) Q else V i undef w/\fr i=false
def Fe (i:Nat) (o:Oper):Prop:=∀ (a:Act) (w:World) (vals:Nat->Value),S w->(∀ e ∈ o.after,Region.binds md e=true->V e.on (vals e.on) w)->(∀ t ∈ o.looksAt ops,a.tmps[t]?=rd md ops a0 vals o t)->zO P Q ops S V fr i o a w
def my:List Oper->Nat->Prop
 | [],_=>True
 | o :: os,k=>Fe P Q md ops S V a0 fr k o/\my os (k+1)
theorem my.at {os:List Oper} {k:Nat} (h:my P Q md ops S V a0 fr os k):∀ {i:Nat} {o:Oper},os[i]?=some o->Fe P Q md ops S V a0 fr (k+i) o:=by
 induction os generalizing k with
 | nil=>intro i o hi;simp at hi
 | cons x os ih=>
 intro i o hi
 cases i with
 | zero=>
  simp only [List.getElem?_cons_zero,Option.some.injEq] at hi;subst hi;exact h.1
 | succ i=>
 have:=ih h.2 (i:=i) (o:=o) (by simpa using hi);rw [show k+(i+1)=k+1+i from ω];exact this
def G6 (L:Array Bool) (a:Act) (w:World):Prop:=
 L.size=ops.size/\S w/\(∀ i o,ops[i]?=some o->L.getD i false=true->∀ e ∈ o.after,Region.binds md e=true->L.getD e.on false=true)/\
 ∃ vals:Nat->Value,a=fill (fun j=>L.getD j false) vals ops.toList 0 a0/\(∀ i,i<ops.size->L.getD i false=true->V i (vals i) w)/\
  ∀ i j,i<ops.size->j<ops.size->L.getD i false=true->L.getD j false=true->i≠j->fr i=true->fr j=true->vals i≠vals j
end
theorem y7 {ops:Array Oper} {S:World->Prop} {V:Nat->Value->World->Prop} {a0:Act} {n0:Nat} {fr:Nat->Bool} (hok:d6 md ops a0.tmps.size=true) (ht:lY md ops n0=true)
  (hR:my P Q md ops S V a0 fr (ops.toList.take n0) 0) (hF:∀ (vals:Nat->Value) (w:World),S w->(∀ i,i<n0->V i (vals i) w)->(∀ i j,i<n0->j<n0->i≠j->fr i=true->fr j=true->vals i≠vals j)->aV P Q (ops.toList.drop n0) (fill (fun _=>true) vals (ops.toList.take n0) 0 a0) w) :
  ∀ (fuel:Nat) (L:Array Bool) (a:Act) (w:World),left (fun j=>L.getD j false) ops.size<=fuel->(∀ i,i<ops.size->L.getD i false=true->i<n0)->G6 md ops S V a0 fr L a w->wpAny P md ops Q fuel L a w:=by
 obtain ⟨hn0,hta⟩:=qH ht;rw [d6,Bool.and_eq_true,Bool.and_eq_true] at hok;obtain ⟨⟨hap,hrd⟩,hac⟩:=hok
 have Ja:∀ i o,ops[i]?=some o->(∀ e ∈ o.after,Region.binds md e=true->e.on<i)/\∀ d,o.dst=some d->d<a0.tmps.size:=fun i o hi=>by
  have hlt:i<ops.size:=(Array.getElem?_eq_some_iff.1 hi).1;have:=List.all_eq_true.1 hac i (List.mem_range.2 hlt);rw [hi] at this;simp only [Bool.and_eq_true,List.all_eq_true,Bool.or_eq_true,Bool.not_eq_true',decide_eq_true_eq] at this;refine ⟨fun e he hb=>?_,fun d hd=>?_⟩
  ·rcases this.1 e (Array.mem_toList_iff.2 he) with q | q
   ·rw [hb] at q;cases q
   exact q
  have:=this.2;rw [hd] at this
  simpa using this
 have htl:∀ i,ops.toList[i]?=ops[i]?:=fun i=>Array.getElem?_toList
 have hall:∀ L:Array Bool,L.size=ops.size->Region.ready md ops L=[]->∀ i,i<ops.size->L.getD i false=true:=by
  intro L hL hr i
  induction i using Nat.strongRecOn with
  | ind i ih=>
  intro hi
  cases hl:L.getD i false
  ·exfalso
   have hm:i ∈ Region.ready md ops L:=by
    unfold Region.ready;rw [List.mem_filter];refine ⟨List.mem_range.2 hi,?_⟩
    have hg:L.getD i true=false:=by
     rw [Array.getD_eq_getD_getElem?,Array.getElem?_eq_getElem ω] at hl ⊢;exact hl
    rw [hg,Array.getElem?_eq_getElem hi];simp only [Bool.not_false,Bool.true_and,Option.map_some,Option.getD_some];rw [Array.all_eq_true_iff_forall_mem];intro e he
    cases hb:Region.binds md e
    ·rfl
    have hlt:=(Ja i _ (Array.getElem?_eq_getElem hi)).1 e he hb;simp [ih e.on hlt ω]
   rw [hr] at hm;cases hm
  rfl
 have hdone:∀ (fuel:Nat) (L:Array Bool) (a:Act) (w:World),left (fun j=>L.getD j false) ops.size<=fuel->(∀ i,i<ops.size->L.getD i false=true->i<n0)->G6 md ops S V a0 fr L a w->(∀ j,j<n0->L.getD j false=true)->wpAny P md ops Q fuel L a w:=by
  rintro fuel L a w hl hb ⟨hL,hS,hdc,vals,rfl,hv,hfr⟩ hj
  have W6:∀ j,j<ops.size->L.getD j false=decide (j<n0):=fun j hjs=>by
   by_cases q:j<n0
   ·rw [hj j q,decide_eq_true q]
   rw [decide_eq_false q]
   cases hc:L.getD j false
   ·rfl
   exact absurd (hb j hjs hc) q
  rw [wh (k:=n0) ops.size W6] at hl;refine vW ht (fun i o hi=>(Ja i o hi).1) fuel L _ w n0 (IY _) hn0 hL W6 ω ?_;rw [lF (l:=fun j=>L.getD j false) (m:=n0) ops.toList 0 a0 (fun j _ h2=>by rw [Nat.zero_add];exact W6 j (by simpa using h2))]
  exact hF vals w hS (fun i hi=>hv i ω (hj i hi)) fun i j hi hj' hne=>hfr i j ω ω (hj i hi) (hj j hj') hne
 intro fuel
 induction fuel with
 | zero=>
  intro L a w hl hb hI;have hz:=ge _ (Nat.le_zero.1 hl);exact hdone 0 L a w hl hb hI (fun j hj=>hz j ω)
 | succ fuel ih=>
 intro L a w hl hb hI
 by_cases hj:∀ j,j<n0->L.getD j false=true
 ·exact hdone _ L a w hl hb hI hj
 refine ⟨fun hr=>absurd (fun j hjn=>hall L hI.1 hr j ω) hj,fun i hi=>?_⟩;obtain ⟨hL,hS,hdc,vals,rfl,hv,hfr⟩:=hI;obtain ⟨hun,o,ho,La⟩:=mem_ready.1 hi;have hilt:i<ops.size:=(Array.getElem?_eq_some_iff.1 ho).1
 have hin:i<n0:=by
  rcases Nat.lt_or_ge i n0 with q | q
  ·exact q
  exact absurd (fun j hjn=>nI hdc 3 i j o ho La ((hta i hilt q).2 j ω)) hj
 have hun':L.getD i false=false:=by
  simp only [Array.getD_eq_getD_getElem?] at hun ⊢;rw [Array.getElem?_eq_getElem ω] at hun ⊢;exact hun
 have hq:=my.at P Q md ops S V a0 fr hR (i:=i) (o:=o) (by rw [List.getElem?_take_of_lt hin,htl];exact ho);rw [Nat.zero_add] at hq
 have hst:=hq (fill (fun j=>L.getD j false) vals ops.toList 0 a0) w vals hS
  (fun e he hb=>hv e.on (by have:=(Ja i o ho).1 e he hb;omega) (La e he hb))
  (fun t ht=>by
   unfold rd
   have hr1:iO md ops i o t=true:=by
    have:=List.all_eq_true.1 hrd i (List.mem_range.2 hilt);rw [ho] at this;exact List.all_eq_true.1 this t ht
   cases hf:o.after.toList.find? (fun e=>Region.binds md e && ((ops[e.on]?).bind (·.dst)) == some t) with
   | some e=>
    have h1:=List.find?_some hf;have h2:=List.mem_of_find?_eq_some hf;rw [Bool.and_eq_true,beq_iff_eq] at h1;obtain ⟨x,hx,hxd⟩:=Option.bind_eq_some_iff.1 h1.2;have h3:=La e (Array.mem_toList_iff.1 h2) h1.1;have:=mS (l:=fun j=>L.getD j false) (v:=vals) ops.toList 0 e.on x a0 hap (by rw [htl];exact hx) (by simpa using h3) hxd ((Ja e.on x hx).2 t hxd);rw [Nat.zero_add] at this;exact this
   | none=>
   refine f8 ops.toList 0 a0 fun j x hx hlj hxd=>?_
   rw [Nat.zero_add] at hlj;rw [htl] at hx;have hjlt:j<ops.size:=(Array.getElem?_eq_some_iff.1 hx).1;rw [iO,Bool.or_eq_true] at hr1
   rcases hr1 with q | q
   ·obtain ⟨e,he,hp⟩:=List.any_eq_true.1 q
    have:=List.find?_eq_none.1 hf e he;exact this hp
   have:=List.all_eq_true.1 q j (List.mem_range.2 hjlt);rw [hx] at this;simp only [Bool.or_eq_true,bne_iff_ne,ne_eq,beq_iff_eq,List.any_eq_true,Bool.and_eq_true] at this
   rcases this with (q1 | q1) | ⟨e,he,hb,hon⟩
   ·exact q1 hxd
   ·subst q1
    rw [hun'] at hlj;cases hlj
   have:=hdc j x hx hlj e (Array.mem_toList_iff.1 he) hb;rw [hon,hun'] at this
   cases this)
 have hnext:∀ (v:Value) (w':World),V i v w'->S w'->(∀ j u,V j u w->V j u w')->(fr i=true->∀ j u,fr j=true->V j u w->u≠v)->wpAny P md ops Q fuel (L.setIfInBounds i true) ((fill (fun j=>L.getD j false) vals ops.toList 0 a0).put o.dst v) w':=by
  intro v w' h1 h2 h3 h4
  have e1:∀ j,(L.setIfInBounds i true).getD j false=if j=i then true else L.getD j false:=fun j=>by
   simp only [Array.getD_eq_getD_getElem?]
   by_cases hji:j=i
   ·subst hji
    rw [Array.getElem?_setIfInBounds_self_of_lt ω];simp
   rw [Array.getElem?_setIfInBounds_ne (fun e=>hji e.symm),if_neg hji]
  refine ih _ _ _ ?_ (fun j hjs hlj=>by rw [e1] at hlj;split at hlj <;> first | omega | exact hb j hjs hlj) ⟨by simpa using hL,h2,?_,fun j=>if j=i then v else vals j,?_,?_,?_⟩
  ·have:=i8 (l:=fun j=>L.getD j false) (l':=fun j=>(L.setIfInBounds i true).getD j false) hun' (by rw [e1,if_pos rfl]) (fun j hj=>by rw [e1,if_neg hj]) ops.size hilt
   omega
  ·intro j x hx hlj e he hb
   rw [e1] at hlj ⊢
   split
   ·rfl
   split at hlj
   ·rename_i hji
    subst hji;rw [ho] at hx;cases hx
    exact La e he hb
   exact hdc j x hx hlj e he hb
  ·rw [kI ops.toList 0 i o a0 hap (by rw [htl];exact ho) (by simpa using hun')]
   rw [Nat.zero_add];exact bR _ _ _ (fun j _ _=>(e1 j).symm) (fun _ _ _=>rfl)
  ·intro j hj hlj
   rw [e1] at hlj
   show V j (if j=i then v else vals j) w'
   split
   ·rename_i hji
    rw [hji];exact h1
   rename_i hji
   rw [if_neg hji] at hlj;exact h3 _ _ (hv j hj hlj)
  intro j k hj hk hlj hlk hne fj fk;rw [e1] at hlj hlk
  show (if j=i then v else vals j)≠(if k=i then v else vals k)
  split at hlj
  ·rename_i hji
   subst hji;rw [if_pos rfl,if_neg (fun e=>hne e.symm)];rw [if_neg (fun e=>hne e.symm)] at hlk
   exact fun e=>h4 fj k (vals k) fk (hv k hk hlk) e.symm
  rename_i hji
  rw [if_neg hji]
  split at hlk
  ·rename_i hki
   rw [if_pos hki];subst hki;exact h4 fk j (vals j) fj (hv j hj hlj)
  rename_i hki
  rw [if_neg hki];exact hfr j k hj hk hlj hlk hne fj fk
 unfold wpOp;rw [ho];unfold zO at hst
 dsimp only
 split at hst
 ·rename_i hw
  rw [if_pos hw];refine Or.inl (Oper.wp_mono ?_ hst);rintro a' w' ⟨v,rfl,h1,h2,h3,h4⟩;exact hnext v w' h1 h2 h3 h4
 rename_i hw
 rw [if_neg hw]
 exact hnext undef w hst.1 hS (fun _ _ h=>h) fun e=>by rw [hst.2] at e;cases e
theorem EK {id:Nat} {ops:Array Oper} {a0:Act} {w:World} {n0:Nat} (fr:Nat->Bool) (S:World->Prop) (V:Nat->Value->World->Prop) (hm:P.follows .mixedOrders=true) (hok:d6 .any ops a0.tmps.size=true) (ht:lY .any ops n0=true)
  (hS:S { w with drawn:=w.drawn+1 }) (hR:my P Q .any ops S V a0 fr (ops.toList.take n0) 0)
  (hF:∀ (vals:Nat->Value) (w:World),S w->(∀ i,i<n0->V i (vals i) w)->(∀ i j,i<n0->j<n0->i≠j->fr i=true->fr j=true->vals i≠vals j)->aV P Q (ops.toList.drop n0) (fill (fun _=>true) vals (ops.toList.take n0) 0 a0) w):(Code.region id ops true).wp P Q a0 w:=by
 have rep:∀ j,(Array.replicate ops.size false).getD j false=false:=fun j=>by
  rw [Array.getD_eq_getD_getElem?,Array.getElem?_replicate]
  split <;> rfl
 refine wp_region_any hm (y7 hok ht hR hF _ _ _ _ ?_ (fun i _ hl=>by rw [rep] at hl;cases hl) ⟨σ,hS,?_,fun _=>undef,?_,?_,?_⟩)
 ·have:∀ (l:Nat->Bool) n,left l n<=n:=fun l n=>by
   induction n with
   | zero=>exact IY _
   | succ n ih=>unfold left;split <;> omega
  exact this _ _
 ·intro i o hi hl
  rw [rep] at hl;cases hl
 ·have:∀ (v:Nat->Value) (os:List Oper) (k:Nat) (a:Act),fill (fun _=>false) v os k a=a:=fun v os=>by
   induction os with
   | nil=>intro k a;rfl
   | cons x os ih=>intro k a;unfold fill;simp [ih]
  refine (this _ ops.toList 0 a0).symm.trans (bR _ _ _ (fun j _ hj=>(rep j).symm) (fun _ _ _=>rfl))
 ·intro i hi hl
  rw [rep] at hl;cases hl
 intro i j _ _ hl;rw [rep] at hl;cases hl
def fg (P:Program) (ops:Array Oper) (Q:Exit->Act->World->Prop) (a0:Act) (T:List Val) (w1:World) (i:Nat) (o:Oper):Prop:=
 match JP T i with
 | .new B Ty xs=>∀ (a:Act) (w:World),Below w1 w1 w->(∀ t ∈ o.looksAt ops,qM ops a0 T o a w t)->B<=w.heap.size/\Region.wanted o (yielded ops a.tmps)=true/\(execOp a.eval o).run P w=.ok (.value (.pointer (some ⟨w,0,none⟩))) (w.alloc (.cells xs Ty))
 | V=>∀ (a:Act) (w:World),Below w1 w1 w->(∀ t ∈ o.looksAt ops,qM ops a0 T o a w t)->Does P ops Q V o a w
def Val.iw:Val->Bool
 | .new _ _ _=>true
 | _=>false
def uQ (P:Program) (ops:Array Oper) (Q:Exit->Act->World->Prop) (a0:Act) (T:List Val) (w1:World) (n0:Nat):List Oper->Nat->Prop
 | [],_=>True
 | o :: os,k=>(k<n0->fg P ops Q a0 T w1 k o)/\uQ P ops Q a0 T w1 n0 os (k+1)
theorem EM {ops:Array Oper} {a0:Act} {T:List Val} {w1:World} {k:Nat} {o:Oper} (h:fg P ops Q a0 T w1 k o):Fe P Q .any ops (fun w=>Below w1 w1 w) (fun i v w=>(JP T i).ok v w) a0 (fun i=>(JP T i).iw) k o:=by
 intro a w vals hS hv hr
 have hl:∀ t ∈ o.looksAt ops,qM ops a0 T o a w t:=fun t ht=>by
  have:=hr t ht;unfold rd at this;unfold qM
  split
  ·rename_i e he
   rw [he] at this;have h2:=List.find?_some he;rw [Bool.and_eq_true] at h2;exact ⟨_,this,hv e (Array.mem_toList_iff.1 (List.mem_of_find?_eq_some he)) h2.1⟩
  rename_i he
  rw [he] at this;exact this
 unfold zO
 dsimp only
 by_cases hn:(JP T k).iw=true
 ·cases hT:JP T k with
  | new B Ty xs=>
   unfold fg at h;rw [hT] at h;obtain ⟨h0,h1,h2⟩:=h a w hS hl;rw [if_pos h1];unfold Oper.wp;rw [h2];refine ⟨_,rfl,⟨w,h0,rfl,?_⟩,hS.trans (((IX _ _).alloc (IY _) _).mono hS.size),fun j u hu=>Val.keep ((IX _ _).alloc (IY _) _) _ _ hu,fun _ j u hj hu=>?_⟩
   ·show (w.heap.push _)[w.heap.size]?=_
    simp
   cases hTj:JP T j with
   | new B' Ty' xs'=>
    rw [hTj] at hu;obtain ⟨g,-,rfl,hg⟩:=hu;intro e;have hlt:=(Array.getElem?_eq_some_iff.1 hg).1
    injection e with e
    injection e with e
    injection e with e
    omega
   | _=>rw [hTj] at hj;cases hj
  | _=>rw [hT] at hn;cases hn
 have h1:Does P ops Q (JP T k) o a w:=by
  unfold fg at h
  split at h
  ·rename_i hT
   rw [hT] at hn;exact absurd rfl hn
  exact h a w hS hl
 unfold Does at h1
 split
 ·rename_i hw
  rw [if_pos hw] at h1;refine Oper.wp_mono ?_ h1;rintro a' w' ⟨v,e1,e2,e3⟩;exact ⟨v,e1,e2,j_ hS e3,fun j u hu=>Val.keep e3 _ _ hu,fun e=>absurd e hn⟩
 rename_i hw
 rw [if_neg hw] at h1;exact ⟨h1,by simpa using hn⟩
theorem qA {ops:Array Oper} {a0:Act} {T:List Val} {w1:World} {n0:Nat}:∀ (os:List Oper) (k m:Nat),k+m=n0->uQ P ops Q a0 T w1 n0 os k->my P Q .any ops (fun w=>Below w1 w1 w) (fun i v w=>(JP T i).ok v w) a0 (fun i=>(JP T i).iw) (os.take m) k
 | [],_,m,_,_=>by rw [List.take_nil];trivial
 | o :: os,k,0,_,_=>by rw [List.take_zero];trivial
 | o :: os,k,m+1,h,hr=>by rw [List.take_succ_cons];exact ⟨EM (hr.1 ω),qA os (k+1) m ω hr.2⟩
theorem b8 {id:Nat} {ops:Array Oper} {a0:Act} {w:World} (n0:Nat) (T:List Val) (hm:P.follows .mixedOrders=true) (hok:d6 .any ops a0.tmps.size=true) (ht:lY .any ops n0=true)
  (hR:uQ P ops Q a0 T w n0 ops.toList 0)
  (hF:∀ (vals:Nat->Value) (w':World),Below w w w'->(∀ i,i<n0->(JP T i).ok (vals i) w')->(∀ i j,i<n0->j<n0->i≠j->(JP T i).iw=true->(JP T j).iw=true->vals i≠vals j)->aV P Q (ops.toList.drop n0) (fill (fun _=>true) vals (ops.toList.take n0) 0 a0) w'):(Code.region id ops true).wp P Q a0 w:=
 EK (fun i=>(JP T i).iw) (fun w'=>Below w w w') (fun i v w'=>(JP T i).ok v w') hm hok ht ((IX _ w).drew) (qA _ 0 n0 (Nat.zero_add _) hR) hF
theorem cE {p:Value->World->Prop} {v:Value} {w:World} (h:(Val.at p).ok v w):p v w:=h w (IX _ _)
theorem Ly {ops:Array Oper} {o:Oper} {a:Act} {w:World} {G:Bool} {v:Value} {j:Nat} (hg:o.guard=some (j,false)) (hy:yielded ops a.tmps j=some G) (h:G=false->Does P ops Q (.is v) o a w):Does P ops Q (.is (bif G then undef else v)) o a w:=by
 cases G
 ·exact h rfl
 exact FM (xf (b:=true) hg hy)
def vl (ops:Array Oper) (a0:Act) (T:List Val) (o:Oper) (t:Nat):Option Value:=
 match o.after.toList.find? (fun e=>Region.binds .any e && ((ops[e.on]?).bind (·.dst)) == some t) with
 | some e=>match JP T e.on with
  | .is x=>some x
  | _=>none
 | none=>a0.tmps[t]?
theorem iB {ops:Array Oper} {a0:Act} {T:List Val} {o:Oper} {a:Act} {w:World} {t:Nat} {x:Value} (h:qM ops a0 T o a w t) (hx:vl ops a0 T o t=some x):a.tmps[t]?=some x:=by
 unfold qM at h;unfold vl at hx
 split at h
 ·rename_i e he
  rw [he] at hx
  dsimp only at hx
  split at hx
  ·rename_i y hy
   rw [hy] at h;cases hx
   exact t_ h
  cases hx
 rename_i he
 rw [he] at hx;exact h.trans hx
theorem OJ {ops:Array Oper} {a0:Act} {T:List Val} {w1:World} {i:Nat} {o:Oper} {V:Val} (hy:JP T i=V) (hn:V.iw=false) (h:∀ (a:Act) (w:World),Below w1 w1 w->(∀ t ∈ o.looksAt ops,qM ops a0 T o a w t)->Does P ops Q V o a w):fg P ops Q a0 T w1 i o:=by
 unfold fg;rw [hy];cases V
 case new=>cases hn
 all_goals exact h
theorem sk {ops:Array Oper} {a0:Act} {T:List Val} {w1:World} {n0 i j:Nat} {o:Oper} {b:Bool} (t:Nat) (hy:JP T i=.is undef:=by rfl) (hl:t ∈ o.looksAt ops:=by decide) (hx:vl ops a0 T o t=some (.bool b):=by rfl) (hg:o.guard=some (j,!b):=by rfl) (hd:(ops[j]?).bind (·.dst)=some t:=by rfl):i<n0->fg P ops Q a0 T w1 i o:=fun _=>OJ hy rfl fun a w hB hr=>FM (xf hg (Jd hd (iB (hr t hl) hx)))
theorem b0 {ops:Array Oper} {a0:Act} {T:List Val} {w1:World} {n0 i:Nat} {o:Oper} {v:Value} (h:∀ (a:Act) (w:World),Below w1 w1 w->(execOp a.eval o).run P w=.ok (.value v) w) (hy:JP T i=.is v:=by rfl) (hn:o.guard=none:=by rfl) (hl:o.looksAt ops=[]:=by rfl):i<n0->fg P ops Q a0 T w1 i o:=fun _=>OJ hy rfl fun a w hB hr=>aU (by unfold Region.wanted;rw [hn]) (h a w hB)
theorem o0 {ops:Array Oper} {a0:Act} {T:List Val} {w1:World} {n0 i:Nat} {o:Oper} {V:Val} (h:∀ (a:Act) (w:World),Below w1 w1 w->Does P ops Q V o a w) (hy:JP T i=V:=by rfl) (hn:V.iw=false:=by rfl) (hl:o.looksAt ops=[]:=by rfl):i<n0->fg P ops Q a0 T w1 i o:=fun _=>OJ hy hn fun a w hB hr=>h a w hB
theorem b1 {ops:Array Oper} {a0:Act} {T:List Val} {w1:World} {n0 i:Nat} {o:Oper} {t:Nat} {x:Value} {v:Value} (h:∀ (a:Act) (w:World),Below w1 w1 w->a.tmps[t]?=some x->(execOp a.eval o).run P w=.ok (.value v) w) (hy:JP T i=.is v:=by rfl) (hn:o.guard=none:=by rfl) (hl:o.looksAt ops=[t]:=by rfl) (et:vl ops a0 T o t=some x:=by rfl):i<n0->fg P ops Q a0 T w1 i o:=fun _=>OJ hy rfl fun a w hB hr=>aU (by unfold Region.wanted;rw [hn]) (h a w hB (iB (hr t (by rw [hl];simp)) et))
theorem o1 {ops:Array Oper} {a0:Act} {T:List Val} {w1:World} {n0 i:Nat} {o:Oper} {t:Nat} {x:Value} {V:Val} (h:∀ (a:Act) (w:World),Below w1 w1 w->a.tmps[t]?=some x->Does P ops Q V o a w) (hy:JP T i=V:=by rfl) (hn:V.iw=false:=by rfl) (hl:o.looksAt ops=[t]:=by rfl) (et:vl ops a0 T o t=some x:=by rfl):i<n0->fg P ops Q a0 T w1 i o:=fun _=>OJ hy hn fun a w hB hr=>h a w hB (iB (hr t (by rw [hl];simp)) et)
theorem b2 {ops:Array Oper} {a0:Act} {T:List Val} {w1:World} {n0 i:Nat} {o:Oper} {t s:Nat} {x y:Value} {v:Value} (h:∀ (a:Act) (w:World),Below w1 w1 w->a.tmps[t]?=some x->a.tmps[s]?=some y->(execOp a.eval o).run P w=.ok (.value v) w) (hy:JP T i=.is v:=by rfl) (hn:o.guard=none:=by rfl) (hl:o.looksAt ops=[t,s]:=by rfl) (et:vl ops a0 T o t=some x:=by rfl) (es:vl ops a0 T o s=some y:=by rfl):i<n0->fg P ops Q a0 T w1 i o:=fun _=>OJ hy rfl fun a w hB hr=>aU (by unfold Region.wanted;rw [hn]) (h a w hB (iB (hr t (by rw [hl];simp)) et) (iB (hr s (by rw [hl];simp)) es))
theorem o2 {ops:Array Oper} {a0:Act} {T:List Val} {w1:World} {n0 i:Nat} {o:Oper} {t s:Nat} {x y:Value} {V:Val} (h:∀ (a:Act) (w:World),Below w1 w1 w->a.tmps[t]?=some x->a.tmps[s]?=some y->Does P ops Q V o a w) (hy:JP T i=V:=by rfl) (hn:V.iw=false:=by rfl) (hl:o.looksAt ops=[t,s]:=by rfl) (et:vl ops a0 T o t=some x:=by rfl) (es:vl ops a0 T o s=some y:=by rfl):i<n0->fg P ops Q a0 T w1 i o:=fun _=>OJ hy hn fun a w hB hr=>h a w hB (iB (hr t (by rw [hl];simp)) et) (iB (hr s (by rw [hl];simp)) es)
theorem b3 {ops:Array Oper} {a0:Act} {T:List Val} {w1:World} {n0 i:Nat} {o:Oper} {t s u:Nat} {x y z:Value} {v:Value} (h:∀ (a:Act) (w:World),Below w1 w1 w->a.tmps[t]?=some x->a.tmps[s]?=some y->a.tmps[u]?=some z->(execOp a.eval o).run P w=.ok (.value v) w) (hy:JP T i=.is v:=by rfl) (hn:o.guard=none:=by rfl) (hl:o.looksAt ops=[t,s,u]:=by rfl) (et:vl ops a0 T o t=some x:=by rfl) (es:vl ops a0 T o s=some y:=by rfl) (eu:vl ops a0 T o u=some z:=by rfl):i<n0->fg P ops Q a0 T w1 i o:=fun _=>OJ hy rfl fun a w hB hr=>aU (by unfold Region.wanted;rw [hn]) (h a w hB (iB (hr t (by rw [hl];simp)) et) (iB (hr s (by rw [hl];simp)) es) (iB (hr u (by rw [hl];simp)) eu))
theorem o3 {ops:Array Oper} {a0:Act} {T:List Val} {w1:World} {n0 i:Nat} {o:Oper} {t s u:Nat} {x y z:Value} {V:Val} (h:∀ (a:Act) (w:World),Below w1 w1 w->a.tmps[t]?=some x->a.tmps[s]?=some y->a.tmps[u]?=some z->Does P ops Q V o a w) (hy:JP T i=V:=by rfl) (hn:V.iw=false:=by rfl) (hl:o.looksAt ops=[t,s,u]:=by rfl) (et:vl ops a0 T o t=some x:=by rfl) (es:vl ops a0 T o s=some y:=by rfl) (eu:vl ops a0 T o u=some z:=by rfl):i<n0->fg P ops Q a0 T w1 i o:=fun _=>OJ hy hn fun a w hB hr=>h a w hB (iB (hr t (by rw [hl];simp)) et) (iB (hr s (by rw [hl];simp)) es) (iB (hr u (by rw [hl];simp)) eu)
end Rg
end
end Go.Proofs.YtkalaljcbmkbmaaGreat
