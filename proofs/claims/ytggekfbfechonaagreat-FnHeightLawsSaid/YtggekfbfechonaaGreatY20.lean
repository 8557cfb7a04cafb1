/-
  Joined texts: contracts and plain lemmas.
-/
import Derived.Test.YtggekfbfechonaaGreatY1
import Derived.Test.YtggekfbfechonaaGreatY17
import Derived.Test.YtggekfbfechonaaGreatY18
import Derived.Test.YtggekfbfechonaaGreatY19
import Derived.Deep.DeepCutAuto
import Derived.Deep.CutRange
import Derived.Outline
import Derived.Test.YtggekfbfechonaaGreatRows
import Derived.WalkKit
import Derived.ProofKit
import Derived.OpenShut
import Derived.Lib.SmallJoins
import Derived.Below
import Derived.Carry
set_option linter.unusedSimpArgs false
set_option linter.unusedVariables false
set_option maxRecDepth 100000
set_option maxHeartbeats 8000000
namespace Go.Proofs.YtggekfbfechonaaGreat
section
open Go.RowKit
def sn (n m:Nat):Bool:=decide ((1048576:Int)<n) || decide (1048576 - (n:Int)<m)
theorem vI (v u:Value) (n m:Nat) (w:World) (hv:cM w w.heap.size v n) (hu:cM w w.heap.size u m) :
  Calls Tryz.prog 6 #[v,u] w fun e w'=>e=.returned (.bool (sn n m))∧w=w':=by
 obtain ⟨A,c,rfl,hn,-⟩:=hv;obtain ⟨A',c',rfl,hm,-⟩:=hu
 by_cases h1:(1048576:Int)<n
 ·go_enter Tryz.func6,Tryz.ntmps6
  go_wp2;go_ret;exact ⟨dT (by simp [sn,h1]),rfl⟩
 by_cases h2:1048576 - (n:Int)<m
 all_goals
  go_enter Tryz.func6,Tryz.ntmps6
  go_wp2;go_ret;exact ⟨dT (by simp [sn,h1,h2]),rfl⟩
theorem nu (v u:Value) (xs:List Int) (h1 h2:Nat) (w:World) (hx:fO w h1 v xs) (hy:fO w h2 u xs) :
  Calls Tryz.prog 43 #[v,u] w fun e w'=>e=.returned (.bool true)∧Below w.heap.size w w':=by
 obtain ⟨A,cap,rfl,hm,hv⟩:=hx;obtain ⟨A',cap',rfl,-,hv'⟩:=hy;go_enter Tryz.func43,Tryz.ntmps43
 go_wp2
 go_loopw [13] (fun vi wr=>∃ k:Nat,k≤xs.length∧vi=.int .i64 k∧Below w.heap.size w wr∧(∀ p,wr.cell? p=w.cell? p)) (fun vi _=>xs.length - (intOf vi).toNat)
 case atStart=>exact ⟨0,by omega,rfl,wK _ _,fun _=>rfl⟩
 case round=>
 obtain ⟨k,hk,rfl,hbr,hc⟩:=hrel;have Hc:=wH hc;clear hc
 by_cases hlt:k<xs.length
 ·obtain ⟨g,x,rfl,hg,hx,hcell⟩:=hv k hlt
  obtain ⟨g',x',rfl,hg',hx',hcell'⟩:=hv' k hlt;obtain rfl:=Option.some.inj (hx.out.symm.trans hx'.out);have q0:=(Hc.out _).trans hcell;have q1:=(Hc.out _).trans hcell';clear hv hv' hcell hcell';go_wp2
  go_quiet (fail)
  go_wp2
  go_roundw
  case rel=>exact ⟨k+1,by omega,by go_num,aM hbr _,fun p=>Hc.out p⟩
  case measure=>simp [intOf];omega
 obtain rfl:k=xs.length:=by omega
 clear hv hv';go_wp2;go_ret;exact ⟨rfl,hbr⟩
theorem law_HeightLaws (v u:Value) (n m:Nat) (w:World) (hv:cM w w.heap.size v n) (hu:cM w w.heap.size u m) :
  Calls Tryz.prog 5 #[v,u] w fun e w'=>e=.returned (.bool true)∧Below w.heap.size w w':=by
 have Hv:=wH hv;have Hu:=wH hu
 have PB:=fun W h1 h2=>vI v u n m W h1 h2
 obtain ⟨Av,cv,rfl,hn,-⟩:=hv;obtain ⟨Au,cu,rfl,hm,-⟩:=hu;have BX:Below w.heap.size w w:=wK _ _
 cases hbig:sn n m <;> rw [hbig] at PB <;> replace PB:=wH PB
 case true=>
  go_enter Tryz.func5,Tryz.ntmps5
  go_wp2_with (go_at_call 6;(refine (PB.out _ Hv.out Hu.out).mono ?_);rintro r w0 ⟨rfl,rfl⟩)
  go_ret;exact ⟨rfl,BX⟩
 case false=>
 clear hbig hn hm;go_enter Tryz.func5,Tryz.ntmps5
 go_wp2_with fail
 (refine (PB.out _ Hv.out Hu.out).mono ?_);rintro r w0 ⟨rfl,rfl⟩
 clear PB
 go_wp2_with fail
 (refine (fX _ n _ Hv.out).mono ?_);rintro r_ w1 ⟨a,b,X,Y,E,nn,rfl,wZ⟩
 replace BX:=d_ BX wZ;clear wZ Hv;have xR:=BX.size;replace BX:=BX.alloc xR (.cells #[.int .i64 a,.int .i64 b] 25);clear xR;have C:=aH.new w1 #[.int .i64 a,.int .i64 b] 25;have xR:=BX.size;replace BX:=BX.alloc xR (.cells #[.int .i64 X,.int .i64 Y,.int .i64 E] 27);clear xR;replace C:=C.alloc (.cells #[.int .i64 X,.int .i64 Y,.int .i64 E] 27);have Q:=aH.new (w1.alloc (.cells #[.int .i64 a,.int .i64 b] 25)) #[.int .i64 X,.int .i64 Y,.int .i64 E] 27;simp only [wI] at Q
 obtain ⟨vH,Jb⟩:∃ v,M.CC a b X Y E nn=v:=⟨_,rfl⟩
 obtain ⟨vM,Jc⟩:∃ v,M.Cz a b X Y E nn=v:=⟨_,rfl⟩
 have HY:=fun w=>fZ a b X Y E nn w
 rw [Jb] at HY;replace HY:=wH HY
 have HZ:=fun w=>fl a b X Y E nn w
 rw [Jb] at HZ;replace HZ:=wH HZ
 have EV:=fun w=>gD a b X Y E nn w
 rw [Jc] at EV;replace EV:=wH EV
 have EY:=fun w=>df a b X Y E nn w
 rw [Jc] at EY;replace EY:=wH EY
 have hH:=fun l h q (e:vH=some (l,h)) (f:vM=some q)=>M.tI (Jb.trans e) (Jc.trans f)
 clear Jb Jc;replace hH:=wH hH;have ⟨x9,yA,_,_,_⟩:=C.box;have ⟨yi,yj,yk⟩:=Q.aK
 go_wp2_with fail
 (with_reducible refine (HY.out _).mono ?_);rintro r_ w2 ⟨rfl,wZ⟩
 clear x9 yA yi yj yk;replace C:=C.keep wZ;replace Q:=Q.keep wZ;replace BX:=d_ BX wZ;clear wZ;have xR:=BX.size;replace BX:=BX.alloc xR (.cells #[.int .i64 (M.yS vH),.int .i64 (M.yT vH),.int .i64 (M.yU vH),.int .i64 (M.yV vH)] 33);clear xR;replace C:=C.alloc (.cells #[.int .i64 (M.yS vH),.int .i64 (M.yT vH),.int .i64 (M.yU vH),.int .i64 (M.yV vH)] 33);replace Q:=Q.alloc (.cells #[.int .i64 (M.yS vH),.int .i64 (M.yT vH),.int .i64 (M.yU vH),.int .i64 (M.yV vH)] 33);have J1:=aH.new w2 #[.int .i64 (M.yS vH),.int .i64 (M.yT vH),.int .i64 (M.yU vH),.int .i64 (M.yV vH)] 33;have ⟨x9,yA,_,_,_⟩:=C.box;have ⟨yi,yj,yk⟩:=Q.aK
 go_wp2_with fail
 (with_reducible refine (HZ.out _).mono ?_);rintro r_ w3 ⟨rfl,wZ⟩
 clear x9 yA yi yj yk;replace C:=C.keep wZ;replace Q:=Q.keep wZ;replace J1:=J1.keep wZ;replace BX:=d_ BX wZ;clear wZ;have xR:=BX.size;replace BX:=BX.alloc xR (.cells #[.int .i64 (M.yS vH),.int .i64 (M.yT vH),.int .i64 (M.yU vH),.int .i64 (M.yV vH)] 33);clear xR;replace C:=C.alloc (.cells #[.int .i64 (M.yS vH),.int .i64 (M.yT vH),.int .i64 (M.yU vH),.int .i64 (M.yV vH)] 33);replace Q:=Q.alloc (.cells #[.int .i64 (M.yS vH),.int .i64 (M.yT vH),.int .i64 (M.yU vH),.int .i64 (M.yV vH)] 33);replace J1:=J1.alloc (.cells #[.int .i64 (M.yS vH),.int .i64 (M.yT vH),.int .i64 (M.yU vH),.int .i64 (M.yV vH)] 33);have J2:=aH.new w3 #[.int .i64 (M.yS vH),.int .i64 (M.yT vH),.int .i64 (M.yU vH),.int .i64 (M.yV vH)] 33;clear HY HZ
 go_upto_region 6 with fail
 generalize (w3.alloc (.cells #[.int .i64 (M.yS vH),.int .i64 (M.yT vH),.int .i64 (M.yU vH),.int .i64 (M.yV vH)] 33))=wp at *
 go_cut [91] from 84 to 91 (fun s wx=>s=.bool false∧wp=wx)
 case first=>as_aux_lemma=>
  have ⟨D2,D3,D4,D5,_,_,_,_,_⟩:=J1.aP;have ⟨OH,OI,OJ,OK,_,_,_,_,_⟩:=J2.aP;clear EV EY hH BX Hu C Q J1 J2;generalize vH.isSome=sH,M.yV vH=p4,M.yU vH=p3,M.yT vH=p2,M.yS vH=p1 at *
  cases sH <;> (go_wp2_with fail;go_meet;exact ⟨rfl,rfl⟩)
 case rest=>as_aux_lemma=>
 obtain ⟨rfl,rfl⟩:=hcut;clear J2
 go_upto_if 92 with fail
 go_cut [12,13,14,15,16,17,18,19,20,21,22,23] from 93 to 151 (fun _ _ _ _ _ _ _ _ _ _ _ _ wx=>Below wp.heap.size wp wx)
 case first=>as_aux_lemma=>
  clear Hu;have Bq:Below wp.heap.size wp wp:=wK _ _
  cases vH with
  | none=>
   go_wp2
   go_meet
   exact wK _ _
  | some p=>
  obtain ⟨l,h⟩:=p
  cases vM with
  | none=>
   clear hH;have E3:=EV.out;have E4:=EY.out;clear EV EY;replace E3:Hid (∀ w,Calls Tryz.prog 38 #[.agg #[.int .i64 a,.int .i64 b],.agg #[.int .i64 X,.int .i64 Y,.int .i64 E],.int .i64 nn] w fun r w'=>r=.returned (.tuple #[.agg #[.int .i64 0,.int .i64 0,.int .i64 0],.bool false])∧Below w.heap.size w w'):=wH E3;replace E4:Hid (∀ w,Calls Tryz.prog 39 #[.agg #[.int .i64 a,.int .i64 b],.agg #[.int .i64 X,.int .i64 Y,.int .i64 E],.int .i64 nn] w fun r w'=>r=.returned (.tuple #[.agg #[.int .i64 0,.int .i64 0,.int .i64 0],.bool false])∧Below w.heap.size w w'):=wH E4;have ⟨x9,yA,_,_,_⟩:=C.box;have ⟨yi,yj,yk⟩:=Q.aK
   go_wp2_with fail
   (with_reducible refine (E3.out _).mono ?_);rintro r_ w6 ⟨rfl,wZ⟩
   clear x9 yA yi yj yk;replace C:=C.keep wZ;replace Q:=Q.keep wZ;replace J1:=J1.keep wZ;replace Bq:=d_ Bq wZ;clear wZ;have xR:=Bq.size;replace Bq:=Bq.alloc xR (.cells #[.int .i64 0,.int .i64 0,.int .i64 0] 27);clear xR;replace C:=C.alloc (.cells #[.int .i64 0,.int .i64 0,.int .i64 0] 27);replace Q:=Q.alloc (.cells #[.int .i64 0,.int .i64 0,.int .i64 0] 27);replace J1:=J1.alloc (.cells #[.int .i64 0,.int .i64 0,.int .i64 0] 27);have M1:=aH.new w6 #[.int .i64 0,.int .i64 0,.int .i64 0] 27;have ⟨x9,yA,_,_,_⟩:=C.box;have ⟨yi,yj,yk⟩:=Q.aK
   go_wp2_with fail
   (with_reducible refine (E4.out _).mono ?_);rintro r_ w7 ⟨rfl,wZ⟩
   clear x9 yA yi yj yk;replace C:=C.keep wZ;replace Q:=Q.keep wZ;replace J1:=J1.keep wZ;replace M1:=M1.keep wZ;replace Bq:=d_ Bq wZ;clear wZ;have xR:=Bq.size;replace Bq:=Bq.alloc xR (.cells #[.int .i64 0,.int .i64 0,.int .i64 0] 27);clear xR;replace C:=C.alloc (.cells #[.int .i64 0,.int .i64 0,.int .i64 0] 27);replace Q:=Q.alloc (.cells #[.int .i64 0,.int .i64 0,.int .i64 0] 27);replace J1:=J1.alloc (.cells #[.int .i64 0,.int .i64 0,.int .i64 0] 27);replace M1:=M1.alloc (.cells #[.int .i64 0,.int .i64 0,.int .i64 0] 27);have M2:=aH.new w7 #[.int .i64 0,.int .i64 0,.int .i64 0] 27;have ⟨A5,A6,A8⟩:=M1.aK;have ⟨A_,BA,BC⟩:=M2.aK;go_wp2
   go_meet
   exact Bq
  | some q=>
  obtain ⟨x,y,e⟩:=q;obtain ⟨hsp,L,H,hB,hs2,hs3⟩:=hH.out l h _ rfl rfl
  have E5:=fun w=>iR a b x y e w
  have E6:=fun w=>ic a b x y e w
  dsimp only at hB
  rw [hB] at E5 E6;generalize M.lw a b x y e=kB at *
  have PM:=fun W=>iS l h L H W hsp hs2 hs3
  replace E5:=wH E5;replace E6:=wH E6;replace PM:=wH PM;clear hB hs2 hs3 hsp;clear hH;have E3:=EV.out;have E4:=EY.out;clear EV EY;replace E3:Hid (∀ w,Calls Tryz.prog 38 #[.agg #[.int .i64 a,.int .i64 b],.agg #[.int .i64 X,.int .i64 Y,.int .i64 E],.int .i64 nn] w fun r w'=>r=.returned (.tuple #[.agg #[.int .i64 x,.int .i64 y,.int .i64 e],.bool true])∧Below w.heap.size w w'):=wH E3;replace E4:Hid (∀ w,Calls Tryz.prog 39 #[.agg #[.int .i64 a,.int .i64 b],.agg #[.int .i64 X,.int .i64 Y,.int .i64 E],.int .i64 nn] w fun r w'=>r=.returned (.tuple #[.agg #[.int .i64 x,.int .i64 y,.int .i64 e],.bool true])∧Below w.heap.size w w'):=wH E4;have ⟨x9,yA,_,_,_⟩:=C.box;have ⟨yi,yj,yk⟩:=Q.aK
  go_wp2_with fail
  (with_reducible refine (E3.out _).mono ?_);rintro r_ w6 ⟨rfl,wZ⟩
  clear x9 yA yi yj yk;replace C:=C.keep wZ;replace Q:=Q.keep wZ;replace J1:=J1.keep wZ;replace Bq:=d_ Bq wZ;clear wZ;have xR:=Bq.size;replace Bq:=Bq.alloc xR (.cells #[.int .i64 x,.int .i64 y,.int .i64 e] 27);clear xR;replace C:=C.alloc (.cells #[.int .i64 x,.int .i64 y,.int .i64 e] 27);replace Q:=Q.alloc (.cells #[.int .i64 x,.int .i64 y,.int .i64 e] 27);replace J1:=J1.alloc (.cells #[.int .i64 x,.int .i64 y,.int .i64 e] 27);have M1:=aH.new w6 #[.int .i64 x,.int .i64 y,.int .i64 e] 27;have ⟨x9,yA,_,_,_⟩:=C.box;have ⟨yi,yj,yk⟩:=Q.aK
  go_wp2_with fail
  (with_reducible refine (E4.out _).mono ?_);rintro r_ w7 ⟨rfl,wZ⟩
  clear x9 yA yi yj yk;replace C:=C.keep wZ;replace Q:=Q.keep wZ;replace J1:=J1.keep wZ;replace M1:=M1.keep wZ;replace Bq:=d_ Bq wZ;clear wZ;have xR:=Bq.size;replace Bq:=Bq.alloc xR (.cells #[.int .i64 x,.int .i64 y,.int .i64 e] 27);clear xR;replace C:=C.alloc (.cells #[.int .i64 x,.int .i64 y,.int .i64 e] 27);replace Q:=Q.alloc (.cells #[.int .i64 x,.int .i64 y,.int .i64 e] 27);replace J1:=J1.alloc (.cells #[.int .i64 x,.int .i64 y,.int .i64 e] 27);replace M1:=M1.alloc (.cells #[.int .i64 x,.int .i64 y,.int .i64 e] 27);have M2:=aH.new w7 #[.int .i64 x,.int .i64 y,.int .i64 e] 27;have ⟨A5,A6,A8⟩:=M1.aK;have ⟨A_,BA,BC⟩:=M2.aK
  go_upto_region 14 with fail
  clear A5 A6 A8 A_ BA BC;have ⟨x9,yA,_,_,_⟩:=C.box;have ⟨A5,A6,A8⟩:=M1.aK
  go_wp2_with fail
  (with_reducible refine (E5.out _).mono ?_);rintro r_ w8 ⟨rfl,wZ⟩
  clear x9 yA A5 A6 A8;replace C:=C.keep wZ;replace Q:=Q.keep wZ;replace J1:=J1.keep wZ;replace M1:=M1.keep wZ;replace M2:=M2.keep wZ;replace Bq:=d_ Bq wZ;clear wZ;have xR:=Bq.size;replace Bq:=Bq.alloc xR (.cells #[.int .i64 (M.yS (some (L,H))),.int .i64 (M.yT (some (L,H))),.int .i64 (M.yU (some (L,H))),.int .i64 (M.yV (some (L,H)))] 33);clear xR;replace C:=C.alloc (.cells #[.int .i64 (M.yS (some (L,H))),.int .i64 (M.yT (some (L,H))),.int .i64 (M.yU (some (L,H))),.int .i64 (M.yV (some (L,H)))] 33);replace Q:=Q.alloc (.cells #[.int .i64 (M.yS (some (L,H))),.int .i64 (M.yT (some (L,H))),.int .i64 (M.yU (some (L,H))),.int .i64 (M.yV (some (L,H)))] 33);replace J1:=J1.alloc (.cells #[.int .i64 (M.yS (some (L,H))),.int .i64 (M.yT (some (L,H))),.int .i64 (M.yU (some (L,H))),.int .i64 (M.yV (some (L,H)))] 33);replace M1:=M1.alloc (.cells #[.int .i64 (M.yS (some (L,H))),.int .i64 (M.yT (some (L,H))),.int .i64 (M.yU (some (L,H))),.int .i64 (M.yV (some (L,H)))] 33);replace M2:=M2.alloc (.cells #[.int .i64 (M.yS (some (L,H))),.int .i64 (M.yT (some (L,H))),.int .i64 (M.yU (some (L,H))),.int .i64 (M.yV (some (L,H)))] 33);have B1:=aH.new w8 #[.int .i64 (M.yS (some (L,H))),.int .i64 (M.yT (some (L,H))),.int .i64 (M.yU (some (L,H))),.int .i64 (M.yV (some (L,H)))] 33;have ⟨x9,yA,_,_,_⟩:=C.box;have ⟨A_,BA,BC⟩:=M2.aK
  go_wp2_with fail
  (with_reducible refine (E6.out _).mono ?_);rintro r_ w9 ⟨rfl,wZ⟩
  clear x9 yA A_ BA BC;replace C:=C.keep wZ;replace Q:=Q.keep wZ;replace J1:=J1.keep wZ;replace M1:=M1.keep wZ;replace M2:=M2.keep wZ;replace B1:=B1.keep wZ;replace Bq:=d_ Bq wZ;clear wZ;have xR:=Bq.size;replace Bq:=Bq.alloc xR (.cells #[.int .i64 (M.yS (some (L,H))),.int .i64 (M.yT (some (L,H))),.int .i64 (M.yU (some (L,H))),.int .i64 (M.yV (some (L,H)))] 33);clear xR;replace C:=C.alloc (.cells #[.int .i64 (M.yS (some (L,H))),.int .i64 (M.yT (some (L,H))),.int .i64 (M.yU (some (L,H))),.int .i64 (M.yV (some (L,H)))] 33);replace Q:=Q.alloc (.cells #[.int .i64 (M.yS (some (L,H))),.int .i64 (M.yT (some (L,H))),.int .i64 (M.yU (some (L,H))),.int .i64 (M.yV (some (L,H)))] 33);replace J1:=J1.alloc (.cells #[.int .i64 (M.yS (some (L,H))),.int .i64 (M.yT (some (L,H))),.int .i64 (M.yU (some (L,H))),.int .i64 (M.yV (some (L,H)))] 33);replace M1:=M1.alloc (.cells #[.int .i64 (M.yS (some (L,H))),.int .i64 (M.yT (some (L,H))),.int .i64 (M.yU (some (L,H))),.int .i64 (M.yV (some (L,H)))] 33);replace M2:=M2.alloc (.cells #[.int .i64 (M.yS (some (L,H))),.int .i64 (M.yT (some (L,H))),.int .i64 (M.yU (some (L,H))),.int .i64 (M.yV (some (L,H)))] 33);replace B1:=B1.alloc (.cells #[.int .i64 (M.yS (some (L,H))),.int .i64 (M.yT (some (L,H))),.int .i64 (M.yU (some (L,H))),.int .i64 (M.yV (some (L,H)))] 33);have B2:=aH.new w9 #[.int .i64 (M.yS (some (L,H))),.int .i64 (M.yT (some (L,H))),.int .i64 (M.yU (some (L,H))),.int .i64 (M.yV (some (L,H)))] 33;have ⟨CE,CF,CG,CH,_,_,_,_,_⟩:=B1.aP;have ⟨Gs,Gt,Gu,Gv,_,_,_,_,_⟩:=B2.aP
  go_upto_region 19 with fail
  clear CE CF CG CH Gs Gt Gu Gv;replace J1:aH _ _ 33 #[.int .i64 (M.pn l),.int .i64 (M.pd l),.int .i64 (M.pn h),.int .i64 (M.pd h)]:=J1;replace B1:aH _ _ 33 #[.int .i64 (M.pn L),.int .i64 (M.pd L),.int .i64 (M.pn H),.int .i64 (M.pd H)]:=B1;have ⟨D2,D3,D4,D5,_,_,_,_,_⟩:=J1.aP;have ⟨CE,CF,CG,CH,_,_,_,_,_⟩:=B1.aP
  go_wp2_with fail
  (with_reducible refine (PM.out _).mono ?_);rintro r_ EP ⟨rfl,wZ⟩
  clear D2 D3 D4 D5 CE CF CG CH;replace C:=C.keep wZ;replace Q:=Q.keep wZ;replace J1:=J1.keep wZ;replace M1:=M1.keep wZ;replace M2:=M2.keep wZ;replace B1:=B1.keep wZ;replace B2:=B2.keep wZ;replace Bq:=d_ Bq wZ;clear wZ;have xR:=Bq.size;replace Bq:=Bq.alloc xR (.cells #[.int .i64 (M.pn (max l L)),.int .i64 (M.pd (max l L)),.int .i64 (M.pn (min h H)),.int .i64 (M.pd (min h H))] 33);clear xR;replace C:=C.alloc (.cells #[.int .i64 (M.pn (max l L)),.int .i64 (M.pd (max l L)),.int .i64 (M.pn (min h H)),.int .i64 (M.pd (min h H))] 33);replace Q:=Q.alloc (.cells #[.int .i64 (M.pn (max l L)),.int .i64 (M.pd (max l L)),.int .i64 (M.pn (min h H)),.int .i64 (M.pd (min h H))] 33);replace J1:=J1.alloc (.cells #[.int .i64 (M.pn (max l L)),.int .i64 (M.pd (max l L)),.int .i64 (M.pn (min h H)),.int .i64 (M.pd (min h H))] 33);replace M1:=M1.alloc (.cells #[.int .i64 (M.pn (max l L)),.int .i64 (M.pd (max l L)),.int .i64 (M.pn (min h H)),.int .i64 (M.pd (min h H))] 33);replace M2:=M2.alloc (.cells #[.int .i64 (M.pn (max l L)),.int .i64 (M.pd (max l L)),.int .i64 (M.pn (min h H)),.int .i64 (M.pd (min h H))] 33);replace B1:=B1.alloc (.cells #[.int .i64 (M.pn (max l L)),.int .i64 (M.pd (max l L)),.int .i64 (M.pn (min h H)),.int .i64 (M.pd (min h H))] 33);replace B2:=B2.alloc (.cells #[.int .i64 (M.pn (max l L)),.int .i64 (M.pd (max l L)),.int .i64 (M.pn (min h H)),.int .i64 (M.pd (min h H))] 33);have K1:=aH.new EP #[.int .i64 (M.pn (max l L)),.int .i64 (M.pd (max l L)),.int .i64 (M.pn (min h H)),.int .i64 (M.pd (min h H))] 33;go_wp2
  go_meet
  exact Bq
 case rest=>as_aux_lemma=>
 replace BX:=d_ BX hcut;clear hcut EV EY hH C Q J1
 go_wp2_with fail
 (refine (i8 _ m _ ((Hu.out.keepW BX).mY BX.size)).mono ?_);rintro r_ Jv ⟨c,d,X4,Y4,E4,n4,rfl,wZ⟩
 replace BX:=d_ BX wZ;clear wZ;have xR:=BX.size;replace BX:=BX.alloc xR (.cells #[.int .i64 c,.int .i64 d] 25);clear xR;have C2:=aH.new Jv #[.int .i64 c,.int .i64 d] 25;have xR:=BX.size;replace BX:=BX.alloc xR (.cells #[.int .i64 X4,.int .i64 Y4,.int .i64 E4] 27);clear xR;replace C2:=C2.alloc (.cells #[.int .i64 X4,.int .i64 Y4,.int .i64 E4] 27);have Q2:=aH.new (Jv.alloc (.cells #[.int .i64 c,.int .i64 d] 25)) #[.int .i64 X4,.int .i64 Y4,.int .i64 E4] 27;simp only [wI] at Q2
 obtain ⟨xs,hxs⟩:∃ v,M.BZ c d X4 Y4 E4 n4=v:=⟨_,rfl⟩
 obtain ⟨ok,hok⟩:∃ v,M.ep c d X4 Y4 E4 n4=v:=⟨_,rfl⟩
 have DM:=fun w=>jA c d X4 Y4 E4 n4 w
 rw [hxs,hok] at DM;replace DM:=wH DM
 have DN:=fun w=>jD c d X4 Y4 E4 n4 w
 rw [hxs,hok] at DN;replace DN:=wH DN
 have hlen:=fun (e:ok=true)=>M.qk (hok.trans e)
 rw [hxs] at hlen;have hl6:=M.sj c d X4 Y4 E4 n4;rw [hxs] at hl6
 have hwin:=fun (i:Nat) (x y:Int) (h1:(M.BZ c d X4 Y4 E4 n4)[i]?=some x) (h2:(M.BZ c d X4 Y4 E4 n4)[i+1]?=some y)=>M.uN h1 h2
 rw [hxs] at hwin;have hlen:=wH hlen;have hwin:=wH hwin;clear hok hxs;have ⟨CI,CJ,_,_,_⟩:=C2.box;have ⟨CO,CP,CQ⟩:=Q2.aK
 go_wp2_with fail
 (with_reducible refine (DM.out _).mono ?_);rintro r_ w12 ⟨s1,rfl,O1,wZ⟩
 obtain ⟨A1,k1,rfl⟩:=O1.ma;clear CI CJ CO CP CQ;replace C2:=C2.keep wZ;replace Q2:=Q2.keep wZ;replace BX:=d_ BX wZ;clear wZ;have ⟨CI,CJ,_,_,_⟩:=C2.box;have ⟨CO,CP,CQ⟩:=Q2.aK
 go_wp2_with fail
 (with_reducible refine (DN.out _).mono ?_);rintro r_ Of ⟨s2,rfl,O2,wZ⟩
 obtain ⟨A2,k2,rfl⟩:=O2.ma;clear CI CJ CO CP CQ;replace C2:=C2.keep wZ;replace Q2:=Q2.keep wZ;replace O1:=O1.below wZ;replace BX:=d_ BX wZ;clear wZ;clear DM DN Q2
 go_upto_region 25 with fail
 go_cut [190] from 172 to 190 (fun s wx=>s=.bool false∧Below Of.heap.size Of wx)
 case first=>as_aux_lemma=>
  have Q1:=wH (nu _ _ xs _ _ Of O1.seen O2.seen);clear O1 O2 BX Hu C2 hwin
  cases ok with
  | false=>
   clear hlen
   go_wp2_with (go_at_call 43;(with_reducible refine (Q1.out).mono ?_);rintro r Om ⟨rfl,GZ⟩)
   go_meet
   exact ⟨rfl,GZ⟩
  | true=>
  obtain ⟨n0,n5,hl⟩:=hlen.out rfl;clear hlen;generalize xs.length=N at *
  obtain ⟨k,rfl⟩:∃ k:Nat,n4=k:=⟨n4.toNat,by omega⟩
  obtain rfl:N=k+1:=by omega
  clear hl n0
  go_wp2_with (go_at_call 43;(with_reducible refine (Q1.out).mono ?_);rintro r Om ⟨rfl,GZ⟩)
  go_meet
  exact ⟨rfl,GZ⟩
 case rest=>as_aux_lemma=>
 obtain ⟨rfl,wZ⟩:=hcut;clear O1 hlen;replace C2:=C2.keep wZ;replace O2:=O2.below wZ;replace BX:=d_ BX wZ;clear wZ
 obtain ⟨N,hN⟩:∃ N,N=xs.length:=⟨_,rfl⟩
 rw [←hN] at O2 hl6 ⊢;replace hN:=wH hN;replace O2:=wH O2
 go_upto_region 28 with fail
 generalize Jv.heap.size=g2 at *
 have hbB:∃ B0,aF wc B0 (.slice A2 N k2) xs:=⟨_,O2.out⟩
 obtain ⟨B0,O2_⟩:=hbB;clear O2
 go_loopw [31] (fun vi wq=>∃ j:Nat,vi=.int .i64 ((j:Int)+1)∧j≤6∧Hid (aF wq B0 (.slice A2 N k2) xs)∧aH wq g2 25 #[.int .i64 c,.int .i64 d]∧Below w.heap.size w wq) (fun vi _=>10 - (intOf vi).toNat)
 case atStart=>exact ⟨0,rfl,by omega,wH O2_,C2,BX⟩
 case round=>
 clear O2_ C2 BX;obtain ⟨j,rfl,hj6,O2,C2,BX⟩:=hrel
 by_cases hlt:(j:Int)+1<(N:Int)
 ·skip
  obtain ⟨x,hx⟩:∃ x,xs[j]?=some x:=⟨_,List.getElem?_eq_getElem (by have:=hN.out;omega)⟩
  obtain ⟨y,hy⟩:∃ y,xs[j+1]?=some y:=⟨_,List.getElem?_eq_getElem (by have:=hN.out;omega)⟩
  have hw:=hwin.out j x y hx hy;obtain ⟨g,cp,e_,hg1,hg2⟩:=aF.form O2.out (by have:=hN.out;omega)
  injection e_ with MK ML MM
  subst MK;clear ML MM;have cx:=aF.cellAt hN.out O2.out hx;have cy:=aF.cellAt hN.out O2.out hy
  have E1:=fun w=>gN c d x w
  have E2:=fun w=>gS c d x w
  have hp:M.gj c d x=true→M.pick (M.gj c d x) (4*x - 3 - (M.hC c d:Nat))≤y∧y≤M.pick (M.gj c d x) (4*x+(M.hC c d:Nat)):=fun h=>by rw [h];exact hw
  generalize M.pick (M.gj c d x) (4*x - 3 - (M.hC c d:Nat))=p1 at *;generalize M.pick (M.gj c d x) (4*x+(M.hC c d:Nat))=p2 at *;generalize M.gj c d x=ow at *;replace E1:=wH E1;replace E2:=wH E2;clear hw hx hy hwin
  have hjn:j<N:=by omega
  have hjn2:j+1<N:=by omega
  have Jd:IntKind.i64.wrap (j:Int)=(j:Int):=by rw [IntKind.wrap_i64];omega
  replace Jd:=wH Jd
  go_upto_region 30 with fail
  refine Rg.bO 14 [.is (.agg #[.int .i64 c,.int .i64 d]),.is (.slice (some ⟨g,0,none⟩) N k2),.is (.int .i64 ((j:Int)+1)),.is (.int .i64 (j:Int)),.is (.pointer (some ⟨g,j,none⟩)),.is (.int .i64 x),.is (.tuple #[.int .i64 p1,.int .i64 p2,.bool ow]),.is (.tuple #[.int .i64 p1,.int .i64 p2,.bool ow]),.is (.int .i64 p1),.is (.int .i64 p2),.is (.bool ow),.is (.int .i64 p1),.is (.int .i64 p2),.is (.bool ow)] (by kernel_rfl) (by kernel_rfl) (by kernel_rfl) ⟨?_,?_,?_,?_,?_,?_,?_,?_,?_,?_,?_,?_,?_,?_,trivial⟩ ?_
  ·intro _ zZ w_ hB hr
   have e24:zZ.tmps[24]?=some (.pointer (some ⟨g2,0,none⟩)):=hr 24 (by decide);have ⟨k0,k1,_,_,_⟩:=(C2.keep hB).box;exact Rg.aG rfl (by (first | (go_simp;done) | (go_simp;omega)))
  ·intro _ zZ w_ hB hr
   have e29:zZ.tmps[29]?=some (.slice (some ⟨g,0,none⟩) N k2):=hr 29 (by decide);exact Rg.aG rfl (by go_simp)
  ·intro _ zZ w_ hB hr
   have e31:zZ.tmps[31]?=some (.int .i64 ((j:Int)+1)):=hr 31 (by decide);exact Rg.aG rfl (by go_simp)
  ·intro _ zZ w_ hB hr
   have e200:=Rg.c_ (hr 200 (by decide));have ec:=Rg.ec zZ;exact Rg.aG rfl (by first | (go_simp;done) | (go_simp;exact Jd.out) | (go_simp;go_num))
  ·intro _ zZ w_ hB hr
   have e199:=Rg.c_ (hr 199 (by decide));have e201:=Rg.c_ (hr 201 (by decide));exact Rg.aG rfl (by (first | (go_simp;done) | (go_simp;omega)))
  ·intro _ zZ w_ hB hr
   have e202:=Rg.c_ (hr 202 (by decide));have k0:=aE hB cx;exact Rg.aG rfl (by (first | (go_simp;done) | (go_simp;omega)))
  ·intro _ zZ w_ hB hr
   have e198:=Rg.c_ (hr 198 (by decide));have e203:=Rg.c_ (hr 203 (by decide));have ef:=Rg.ef zZ;exact Rg.bo rfl (by go_simp) (E1.out _)
  ·intro _ zZ w_ hB hr
   have e204:=Rg.c_ (hr 204 (by decide));exact Rg.aG rfl (by go_simp)
  ·intro _ zZ w_ hB hr
   have e197:=Rg.c_ (hr 197 (by decide));exact Rg.aG rfl (by go_simp)
  ·intro _ zZ w_ hB hr
   have e197:=Rg.c_ (hr 197 (by decide));exact Rg.aG rfl (by go_simp)
  ·intro _ zZ w_ hB hr
   have e197:=Rg.c_ (hr 197 (by decide));exact Rg.aG rfl (by go_simp)
  ·intro _ zZ w_ hB hr
   have e205:=Rg.c_ (hr 205 (by decide));exact Rg.aG rfl (by go_simp)
  ·intro _ zZ w_ hB hr
   have e206:=Rg.c_ (hr 206 (by decide));exact Rg.aG rfl (by go_simp)
  ·intro _ zZ w_ hB hr
   have e207:=Rg.c_ (hr 207 (by decide));exact Rg.aG rfl (by go_simp)
  intro vals wy hB hv hne;have xI:vals 11=.int .i64 p1:=hv 11 (by decide);have zO:vals 12=.int .i64 p2:=hv 12 (by decide);have BV:vals 13=.bool ow:=hv 13 (by decide);simp only [Rg.ay,Rg.fill,Act.put,Nat.reduceAdd];clear hv;simp only [xI,zO,BV];clear xI zO BV;have C3:=C2.keep hB;have cx2:=aE hB cx;have cy2:=aE hB cy;have O3:=O2.out.below hB;have BX3:=d_ BX hB;clear C2 cx cy O2 BX hB E1;unfold Rg.aZ
  go_upto_region 31 with fail
  refine Rg.bO 14 [.is (.agg #[.int .i64 c,.int .i64 d]),.is (.slice (some ⟨g,0,none⟩) N k2),.is (.int .i64 ((j:Int)+1)),.is (.int .i64 (j:Int)),.is (.pointer (some ⟨g,j,none⟩)),.is (.int .i64 x),.is (.tuple #[.int .i64 p1,.int .i64 p2,.bool ow]),.is (.tuple #[.int .i64 p1,.int .i64 p2,.bool ow]),.is (.int .i64 p1),.is (.int .i64 p2),.is (.bool ow),.is (.int .i64 p1),.is (.int .i64 p2),.is (.bool ow)] (by kernel_rfl) (by kernel_rfl) (by kernel_rfl) ⟨?_,?_,?_,?_,?_,?_,?_,?_,?_,?_,?_,?_,?_,?_,trivial⟩ ?_
  ·intro _ zZ w_ hB hr
   have e24:zZ.tmps[24]?=some (.pointer (some ⟨g2,0,none⟩)):=hr 24 (by decide);have ⟨k0,k1,_,_,_⟩:=(C3.keep hB).box;exact Rg.aG rfl (by (first | (go_simp;done) | (go_simp;omega)))
  ·intro _ zZ w_ hB hr
   have e29:zZ.tmps[29]?=some (.slice (some ⟨g,0,none⟩) N k2):=hr 29 (by decide);exact Rg.aG rfl (by go_simp)
  ·intro _ zZ w_ hB hr
   have e31:zZ.tmps[31]?=some (.int .i64 ((j:Int)+1)):=hr 31 (by decide);exact Rg.aG rfl (by go_simp)
  ·intro _ zZ w_ hB hr
   have e211:=Rg.c_ (hr 211 (by decide));have ec:=Rg.ec zZ;exact Rg.aG rfl (by first | (go_simp;done) | (go_simp;exact Jd.out) | (go_simp;go_num))
  ·intro _ zZ w_ hB hr
   have e210:=Rg.c_ (hr 210 (by decide));have e212:=Rg.c_ (hr 212 (by decide));exact Rg.aG rfl (by (first | (go_simp;done) | (go_simp;omega)))
  ·intro _ zZ w_ hB hr
   have e213:=Rg.c_ (hr 213 (by decide));have k0:=aE hB cx2;exact Rg.aG rfl (by (first | (go_simp;done) | (go_simp;omega)))
  ·intro _ zZ w_ hB hr
   have e209:=Rg.c_ (hr 209 (by decide));have e214:=Rg.c_ (hr 214 (by decide));have ef:=Rg.ef zZ;exact Rg.bo rfl (by go_simp) (E2.out _)
  ·intro _ zZ w_ hB hr
   have e215:=Rg.c_ (hr 215 (by decide));exact Rg.aG rfl (by go_simp)
  ·intro _ zZ w_ hB hr
   have e208:=Rg.c_ (hr 208 (by decide));exact Rg.aG rfl (by go_simp)
  ·intro _ zZ w_ hB hr
   have e208:=Rg.c_ (hr 208 (by decide));exact Rg.aG rfl (by go_simp)
  ·intro _ zZ w_ hB hr
   have e208:=Rg.c_ (hr 208 (by decide));exact Rg.aG rfl (by go_simp)
  ·intro _ zZ w_ hB hr
   have e216:=Rg.c_ (hr 216 (by decide));exact Rg.aG rfl (by go_simp)
  ·intro _ zZ w_ hB hr
   have e217:=Rg.c_ (hr 217 (by decide));exact Rg.aG rfl (by go_simp)
  ·intro _ zZ w_ hB hr
   have e218:=Rg.c_ (hr 218 (by decide));exact Rg.aG rfl (by go_simp)
  intro vals wv hB hv hne;have xI:vals 11=.int .i64 p1:=hv 11 (by decide);have zO:vals 12=.int .i64 p2:=hv 12 (by decide);have BV:vals 13=.bool ow:=hv 13 (by decide);simp only [Rg.ay,Rg.fill,Act.put,Nat.reduceAdd];clear hv;simp only [xI,zO,BV];clear xI zO BV;have C4:=C3.keep hB;have cy3:=aE hB cy2;have O4:=O3.below hB;have BX4:=d_ BX3 hB;clear C3 cx2 cy2 O3 BX3 hB E2;unfold Rg.aZ
  cases ow with
  | false=>
   clear hp;go_wp2
   go_roundw
   case rel=>exact ⟨j+1,by go_num,by omega,wH O4,C4,BX4⟩
   case measure=>simp [intOf];omega
  | true=>
  obtain ⟨hp1,hp2⟩:=hp rfl
  have hq1:¬ y<p1:=by omega
  have hq2:¬ p2<y:=by omega
  clear hp;go_wp2
  go_roundw
  case rel=>exact ⟨j+1,by go_num,by omega,wH O4,C4,BX4⟩
  case measure=>simp [intOf];omega
 clear hwin O2 C2
 go_wp2_with fail
 (refine (fW _ m _ ((Hu.out.keepW BX).mY BX.size)).mono ?_);rintro r_ Og ⟨c5,d5,X5,Y5,E5,X6,Y6,E6,rfl,wZ⟩
 replace BX:=d_ BX wZ;clear wZ;have xR:=BX.size;replace BX:=BX.alloc xR (.cells #[.int .i64 c5,.int .i64 d5] 25);clear xR;have C5:=aH.new Og #[.int .i64 c5,.int .i64 d5] 25;have xR:=BX.size;replace BX:=BX.alloc xR (.cells #[.int .i64 X5,.int .i64 Y5,.int .i64 E5] 27);clear xR;replace C5:=C5.alloc (.cells #[.int .i64 X5,.int .i64 Y5,.int .i64 E5] 27);have Q5:=aH.new (Og.alloc (.cells #[.int .i64 c5,.int .i64 d5] 25)) #[.int .i64 X5,.int .i64 Y5,.int .i64 E5] 27;simp only [wI] at Q5;have xR:=BX.size;replace BX:=BX.alloc xR (.cells #[.int .i64 X6,.int .i64 Y6,.int .i64 E6] 27);clear xR;replace C5:=C5.alloc (.cells #[.int .i64 X6,.int .i64 Y6,.int .i64 E6] 27);replace Q5:=Q5.alloc (.cells #[.int .i64 X6,.int .i64 Y6,.int .i64 E6] 27);have Q6:=aH.new ((Og.alloc (.cells #[.int .i64 c5,.int .i64 d5] 25)).alloc (.cells #[.int .i64 X5,.int .i64 Y5,.int .i64 E5] 27)) #[.int .i64 X6,.int .i64 Y6,.int .i64 E6] 27;simp only [wI] at Q6
 skip
 obtain ⟨b1,hb1⟩:∃ v,M.bW c5 d5 X5 Y5 E5=v:=⟨_,rfl⟩
 obtain ⟨b2,hb2⟩:∃ v,M.bW c5 d5 X6 Y6 E6=v:=⟨_,rfl⟩
 obtain ⟨cv,hcv⟩:∃ v,M.iK c5 d5 X5 E5 X6 E6=v:=⟨_,rfl⟩
 have Cg:=fun w=>cg c5 d5 X5 Y5 E5 X6 Y6 E6 w
 rw [hb1,hb2,hcv] at Cg
 have Ch:=fun w=>fh c5 d5 X5 Y5 E5 X6 Y6 E6 w
 rw [hb1,hb2,hcv] at Ch
 have Bj:=fun w=>cg c5 d5 X6 Y6 E6 X5 Y5 E5 w
 rw [hb1,hb2] at Bj
 have Bk:=fun w=>cg c5 d5 X5 Y5 E5 X5 Y5 E5 w
 rw [hb1] at Bk
 have hsw:=fun h1 h2=>M.qy (hb1.trans h1) (hb2.trans h2)
 rw [hcv] at hsw
 have hse:=fun h1=>M.qx (hb1.trans h1)
 have hci:=M.uP c5 d5 X5 E5 X6 E6;rw [hcv] at hci;clear hb1 hb2 hcv;generalize Fi:(b1 && b2)=oo at *
 obtain ⟨pc,hpc⟩:∃ p,M.pick oo cv=p:=⟨_,rfl⟩
 rw [hpc] at Cg Ch;replace Cg:=wH Cg;replace Ch:=wH Ch;replace Bj:=wH Bj;replace Bk:=wH Bk;replace hsw:=wH hsw;replace hse:=wH hse;replace hci:=wH hci;replace hpc:=wH hpc;replace Fi:=wH Fi;have ⟨zA,zB,_,_,_⟩:=C5.box;have ⟨zC,zD,zI⟩:=Q5.aK;have ⟨Ac,Ad,Ae⟩:=Q6.aK
 go_wp2_with fail
 (with_reducible refine (Cg.out _).mono ?_);rintro r_ w22 ⟨rfl,wZ⟩
 clear zA zB zC zD zI Ac Ad Ae;replace C5:=C5.keep wZ;replace Q5:=Q5.keep wZ;replace Q6:=Q6.keep wZ;replace BX:=d_ BX wZ;clear wZ;have ⟨zA,zB,_,_,_⟩:=C5.box;have ⟨zC,zD,zI⟩:=Q5.aK;have ⟨Ac,Ad,Ae⟩:=Q6.aK
 go_wp2_with fail
 (with_reducible refine (Ch.out _).mono ?_);rintro r_ HW ⟨rfl,wZ⟩
 clear zA zB zC zD zI Ac Ad Ae;replace C5:=C5.keep wZ;replace Q5:=Q5.keep wZ;replace Q6:=Q6.keep wZ;replace BX:=d_ BX wZ;clear wZ;clear Cg Ch
 go_upto_region 37 with fail
 go_cut [278] from 271 to 278 (fun s wx=>s=.bool false∧HW=wx)
 case first=>as_aux_lemma=>
  clear Bj Bk hsw hse hci hpc Fi BX Hu C5 Q5 Q6
  cases oo <;> (go_wp2_with fail;go_meet;exact ⟨rfl,rfl⟩)
 case rest=>as_aux_lemma=>
 obtain ⟨rfl,rfl⟩:=hcut
 go_upto_if 279 with fail
 go_cut [45,46,47,48] from 280 to 309 (fun _ _ _ _ wx=>Below HW.heap.size HW wx)
 case first=>as_aux_lemma=>
  clear Hu;have Bq:Below HW.heap.size HW HW:=wK _ _
  cases oo with
  | false=>
   go_wp2
   go_meet
   exact wK _ _
  | true=>
  obtain ⟨rfl,rfl⟩:b1=true∧b2=true:=by have:=Fi.out;revert this;cases b1 <;> cases b2 <;> decide
  obtain rfl:cv=pc:=hpc.out;have hci:=hci.out;have F1:=Bj.out;rw [hsw.out rfl rfl,Bool.and_self,M.bn] at F1;have F2:=Bk.out;rw [hse.out rfl,Bool.and_self,M.bn] at F2;clear Bj Bk hsw hse hpc Fi;obtain ⟨hc1,hc2⟩:=hci;replace F1:=wH F1;replace F2:=wH F2;have ⟨zA,zB,_,_,_⟩:=C5.box;have ⟨zC,zD,zI⟩:=Q5.aK;have ⟨Ac,Ad,Ae⟩:=Q6.aK
  go_wp2_with fail
  (with_reducible refine (F1.out _).mono ?_);rintro r_ w24 ⟨rfl,wZ⟩
  clear zA zB zC zD zI Ac Ad Ae;replace C5:=C5.keep wZ;replace Q5:=Q5.keep wZ;replace Q6:=Q6.keep wZ;replace Bq:=d_ Bq wZ;clear wZ;have ⟨zA,zB,_,_,_⟩:=C5.box;have ⟨zC,zD,zI⟩:=Q5.aK
  go_wp2_with fail
  (with_reducible refine (F2.out _).mono ?_);rintro r_ w25 ⟨rfl,wZ⟩
  clear zA zB zC zD zI;replace C5:=C5.keep wZ;replace Q5:=Q5.keep wZ;replace Q6:=Q6.keep wZ;replace Bq:=d_ Bq wZ;clear wZ;go_wp2
  go_meet
  exact Bq
 case rest=>as_aux_lemma=>
 replace BX:=d_ BX hcut;clear hcut Bj Bk hsw hse hci hpc Fi C5 Q5 Q6
 go_wp2_with fail
 (refine (ge _ m _ ((Hu.out.keepW BX).mY BX.size)).mono ?_);rintro r_ Oh ⟨c7,d7,vL,rfl,JR,wZ⟩
 replace BX:=d_ BX wZ;clear wZ;obtain ⟨xl,hL,GU⟩:=JR;obtain ⟨AL,kL,rfl,JR⟩:=hL
 have hL:iH Oh (.slice AL xl.length kL) xl:=⟨AL,kL,rfl,JR⟩
 clear JR;have xR:=BX.size;replace BX:=BX.alloc xR (.cells #[.int .i64 c7,.int .i64 d7] 25);clear xR;replace hL:=hL.below (bA Oh (.cells #[.int .i64 c7,.int .i64 d7] 25));have C7:=aH.new Oh #[.int .i64 c7,.int .i64 d7] 25
 have ET:=wH fun W h=>gl c7 d7 (.slice AL xl.length kL) xl W h (by omega)
 have EU:=wH fun W h=>iC c7 d7 (.slice AL xl.length kL) xl W h (by omega)
 obtain ⟨vW,Na⟩:∃ v,M.kz c7 d7 xl=v:=⟨_,rfl⟩
 rw [Na] at ET EU
 have hW:=fun r (e:vW=some r)=>M.tH (Na.trans e)
 clear Na
 obtain ⟨NL,hNL⟩:∃ N,N=xl.length:=⟨_,rfl⟩
 rw [←hNL] at hL ET EU hW GU ⊢;clear hNL;replace hW:=wH hW;replace hL:=wH hL;have ⟨CK,CL,_,_,_⟩:=C7.box
 go_wp2_with fail
 (with_reducible refine (ET.out _ hL.out).mono ?_);rintro r_ w32 ⟨rfl,wZ⟩
 clear CK CL;replace C7:=C7.keep wZ;replace hL:=wH (hL.out.below wZ);replace BX:=d_ BX wZ;clear wZ;have ⟨CK,CL,_,_,_⟩:=C7.box
 go_wp2_with fail
 (with_reducible refine (EU.out _ hL.out).mono ?_);rintro r_ w33 ⟨rfl,wZ⟩
 clear CK CL;replace C7:=C7.keep wZ;replace hL:=wH (hL.out.below wZ);replace BX:=d_ BX wZ;clear wZ;clear ET EU hL C7
 go_upto_region 47 with fail
 go_cut [347] from 327 to 347 (fun s wx=>s=.bool false∧w33=wx)
 case first=>as_aux_lemma=>
  clear BX Hu GU
  cases vW with
  | none=>
   clear hW
   go_wp2_with fail
   go_meet
   exact ⟨rfl,rfl⟩
  | some r=>
  obtain ⟨r0,r1⟩:=hW.out r rfl;clear hW
  have hq1:¬ r<0:=by omega
  have hq2:¬ (NL:Int)≤r:=by omega
  simp only [Option.getD_some,Option.isSome_some]
  go_wp2_with fail
  go_meet
  exact ⟨rfl,rfl⟩
 case rest=>as_aux_lemma=>
 obtain ⟨rfl,rfl⟩:=hcut;clear hW GU
 go_wp2_with fail
 (refine (i9 _ m _ ((Hu.out.keepW BX).mY BX.size)).mono ?_);rintro r_ w41 ⟨c8,d8,X8,Y8,E8,rfl,wZ⟩
 replace BX:=d_ BX wZ;clear wZ Hu;have xR:=BX.size;replace BX:=BX.alloc xR (.cells #[.int .i64 c8,.int .i64 d8] 25);clear xR;have C8:=aH.new w41 #[.int .i64 c8,.int .i64 d8] 25;have xR:=BX.size;replace BX:=BX.alloc xR (.cells #[.int .i64 X8,.int .i64 Y8,.int .i64 E8] 27);clear xR;replace C8:=C8.alloc (.cells #[.int .i64 X8,.int .i64 Y8,.int .i64 E8] 27);have Q8:=aH.new (w41.alloc (.cells #[.int .i64 c8,.int .i64 d8] 25)) #[.int .i64 X8,.int .i64 Y8,.int .i64 E8] 27;simp only [wI] at Q8
 obtain ⟨vG,NZ⟩:∃ v,M.eU c8 d8 X8 Y8 E8=v:=⟨_,rfl⟩
 have EW:=fun w=>jB c8 d8 X8 Y8 E8 w
 rw [NZ] at EW;replace EW:=wH EW
 have EX:=fun w=>jE c8 d8 X8 Y8 E8 w
 rw [NZ] at EX;replace EX:=wH EX;clear NZ;generalize vG.isSome=oG,M.yV vG=q4,M.yU vG=q3,M.yT vG=q2,M.yS vG=q1 at *;have ⟨CM,CN,_,_,_⟩:=C8.box;have ⟨CR,CS,CT⟩:=Q8.aK
 go_wp2_with fail
 (with_reducible refine (EW.out _).mono ?_);rintro r_ w42 ⟨rfl,wZ⟩
 clear CM CN CR CS CT;replace C8:=C8.keep wZ;replace Q8:=Q8.keep wZ;replace BX:=d_ BX wZ;clear wZ;have xR:=BX.size;replace BX:=BX.alloc xR (.cells #[.int .i64 q1,.int .i64 q2,.int .i64 q3,.int .i64 q4] 33);clear xR;replace C8:=C8.alloc (.cells #[.int .i64 q1,.int .i64 q2,.int .i64 q3,.int .i64 q4] 33);replace Q8:=Q8.alloc (.cells #[.int .i64 q1,.int .i64 q2,.int .i64 q3,.int .i64 q4] 33);have G1:=aH.new w42 #[.int .i64 q1,.int .i64 q2,.int .i64 q3,.int .i64 q4] 33;have ⟨CM,CN,_,_,_⟩:=C8.box;have ⟨CR,CS,CT⟩:=Q8.aK
 go_wp2_with fail
 (with_reducible refine (EX.out _).mono ?_);rintro r_ w43 ⟨rfl,wZ⟩
 clear CM CN CR CS CT;replace C8:=C8.keep wZ;replace Q8:=Q8.keep wZ;replace G1:=G1.keep wZ;replace BX:=d_ BX wZ;clear wZ;have xR:=BX.size;replace BX:=BX.alloc xR (.cells #[.int .i64 q1,.int .i64 q2,.int .i64 q3,.int .i64 q4] 33);clear xR;replace C8:=C8.alloc (.cells #[.int .i64 q1,.int .i64 q2,.int .i64 q3,.int .i64 q4] 33);replace Q8:=Q8.alloc (.cells #[.int .i64 q1,.int .i64 q2,.int .i64 q3,.int .i64 q4] 33);replace G1:=G1.alloc (.cells #[.int .i64 q1,.int .i64 q2,.int .i64 q3,.int .i64 q4] 33);have G2:=aH.new w43 #[.int .i64 q1,.int .i64 q2,.int .i64 q3,.int .i64 q4] 33;have ⟨N6,N7,N8,N9,_,_,_,_,_⟩:=G1.aP;have ⟨OA,OC,OE,OG,_,_,_,_,_⟩:=G2.aP
 cases oG <;> (go_wp2_with fail;go_ret;exact ⟨by first | rfl | simp,BX⟩)
end
section
open Go.ChangeShapes Go.WideShapes Go.ChangeAt Go.RowKit Go.Joins Go.Deep
theorem own:ownKnob Tryz.prog.godebug=none:=by kernel_rfl
theorem laidOut:laidOutB Tryz.prog=true:=by kernel_rfl
section
variable {H:Type} {enc:TypeId × Value→H} {P:Program} {w:World} {base:Nat} {spare:Nat→Bool} {held:Bool}
theorem gK (hl:laidOutB P=true):∀ (ts:List TypeId) (hts:∀ t ∈ ts,P.readableRec t=true∧t<P.types.size) {W W':World} {vs:List Value} {ds:List (DataW H)} {ps:List MemPlace}
  (_:DataW.TrodAll enc P W 0 (fun _=>true) true ts vs ds ps) (_:Below W.heap.size W W') (_:∀ x ∈ ps,x.block<W.heap.size),DataW.TrodAll enc P W' 0 (fun b=>decide (b<W.heap.size)) true ts vs ds ps
 | [],_,_,_,_,_,_,h,_,_=>by
  obtain ⟨rfl,rfl,rfl⟩:=trodAll_nil h;exact trodAll_mk0
 | t :: ts,hts,_,_,_,_,_,h,hb,hlt=>by
  obtain ⟨v,vs',d,ds',p,q,rfl,rfl,rfl,h1,h2⟩:=trodAll_cons h;refine ⟨p,q,Below.trod hl (hts t List.mem_cons_self).1 (hts t List.mem_cons_self).2 h1 hb fun x hx=>hlt x (List.mem_append_left _ hx),?_,rfl⟩
  exact gK hl ts (fun t' ht'=>hts t' (List.mem_cons_of_mem _ ht')) h2 hb fun x hx=>hlt x (List.mem_append_right _ hx)
theorem law_post {f:Func} {s:ChangeSpec} {W W':World} {args:Array Value} {ds:List (DataW H)} {before:List MemPlace} {tb:TypeId}
  (hl:laidOutB P=true) (hts:∀ t ∈ f.params.toList,P.readableRec t=true∧t<P.types.size)
  (hvars:s.vars=[]) (hf:s.fn H ds={ results:=[.lit (.bool true)],args:=ds }) (hrt:f.resultTypes=#[tb]) (ID:P.underlying tb=some .bool)
  (hW:DataW.Whole enc P f.params.toList s.vars false W args.toList ds [] before) (hb:Below W.heap.size W W') :
  s.post enc P f false true false false W args (.bool true) W':=by
 have hlt:∀ p ∈ before,p.block<W.heap.size:=fun p hp=>hW.lt p hp
 obtain ⟨p,q,hA,hV,hpq,hz,hn⟩:=id hW;rw [hvars] at hV;obtain ⟨_,rfl⟩:=trodVars_none hV
 have hbp:before=p:=by simpa using hpq
 subst hbp
 have e1:s.fn H (ds ++ [])={ results:=[.lit (.bool true)],args:=ds }:=by rw [List.append_nil];exact hf
 refine ⟨ds,[],before,[],before,[],hW,?_,?_,?_,World.keptBut_mono (fun x hx=>⟨hx,Or.inr (Or.inl hx)⟩) (hb.frame (· ∈ before)),fun h=>by cases h⟩
 ·rw [e1,hrt]
  exact trodAll_mk1 (shut_bool ID true)
 ·rw [e1]
  exact gK hl _ hts hA hb hlt
 rw [e1,hvars];exact rfl
end
theorem open_bytes {H:Type} {enc:TypeId × Value→H} {P:Program} {w:World} {base b0:Nat} {held:Bool} {r:Reach} {t te:TypeId} {v:Value} {d:DataW H} {ps:List MemPlace}
  (ht:P.underlying t=some (.slice te)) (he:P.underlying te=some (.int .u8)) (hc:P.cellsOf te=1) (hv:Value.okWide P w r b0 t v) (h:DataW.Trod enc P w base (fun _=>true) held t v d ps) :
  ∃ n:Nat,cM w w.heap.size v n:=by
 obtain ⟨a1,len,cap,rfl⟩:=okWide_slice ht hv;obtain ⟨fuel,hf⟩:=h
 rcases open_ints ht he hc hf with ⟨hcs,hx⟩ | ⟨a,len',cap',zs,hcs,_,hl,hm,hz,hx,hcell,hwz⟩
 ·simp [Value.cells] at hcs
  obtain ⟨rfl,rfl,rfl⟩:=hcs;exact ⟨0,none,0,rfl,by omega,fun j hj=>absurd hj (by omega)⟩
 simp [Value.cells] at hcs
 obtain ⟨rfl,rfl,rfl⟩:=hcs;simp only [if_true] at hz;refine ⟨len,some a,cap,rfl,by unfold maxLen at hm;omega,fun j hj=>?_⟩;obtain ⟨ab,ao,spot⟩:=a
 have hspot:spot=none:=by simpa [Addr.add] using World.cell?_spot (hcell 0 (by omega))
 subst hspot;have hcj:=hcell j (by omega);rw [Addr.add_lit] at hcj
 have hb:0≤zs.getD j 0∧zs.getD j 0≤255:=by
  have:=range_u8 hwz j;simp only [List.getD_eq_getElem?_getD] at this ⊢;omega
 exact ⟨ab,ao,zs.getD j 0,rfl,World.block_lt_of_cell? w _ hcj,hcj,hb.1,hb.2⟩
end
end Go.Proofs.YtggekfbfechonaaGreat
