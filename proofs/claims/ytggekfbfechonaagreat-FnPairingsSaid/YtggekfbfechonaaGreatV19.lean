/-
  Joined texts: contracts and plain lemmas.
-/
import Derived.Test.YtggekfbfechonaaGreatV1
import Derived.Test.YtggekfbfechonaaGreatV18
import Derived.Test.YtggekfbfechonaaGreatV16
import Derived.Test.YtggekfbfechonaaGreatV2
import Derived.Deep.DeepCutAuto
import Derived.Deep.CutRange
import Derived.Outline
import Derived.Test.YtggekfbfechonaaGreatRows
import Derived.WalkKit
import Derived.ProofKit
import Derived.OpenShut
import Derived.Lib.SmallJoins
import Derived.Below
import Derived.Carry
set_option linter.unusedSimpArgs false
set_option linter.unusedVariables false
set_option maxRecDepth 100000
set_option maxHeartbeats 8000000
namespace Go.Proofs.YtggekfbfechonaaGreat
section
open Go.RowKit
theorem cW.dF {w w':World} {B n:Nat} {v:Value} (h:cW w B v n) (hb:Below B w w'):cW w' B v n:=by
 obtain ⟨A,cap,e,hn,hx⟩:=h;refine ⟨A,cap,e,hn,fun j hj=>?_⟩;obtain ⟨gb,ob,b,e,hgb,hc,h1,h2⟩:=hx j hj;exact ⟨gb,ob,b,e,hgb,(hb.cell (p:=⟨gb,ob+j,none⟩) hgb).trans hc,h1,h2⟩
theorem cW.mono {w:World} {B B' n:Nat} {v:Value} (h:cW w B v n) (hB:B≤B'):cW w B' v n:=by
 obtain ⟨A,cap,e,hn,hx⟩:=h;refine ⟨A,cap,e,hn,fun j hj=>?_⟩;obtain ⟨gb,ob,b,e,hgb,hc,h1,h2⟩:=hx j hj;exact ⟨gb,ob,b,e,by omega,hc,h1,h2⟩
theorem iq (HD1:∀ (v:Value) (n:Nat) (w:World),cW w w.heap.size v n→Calls Tryz.prog 23 #[v] w fun e w'=>∃ a b X1 Y1 E1 X2 Y2 E2:Int,e=.returned (.tuple #[.agg #[.int .i64 a,.int .i64 b],.agg #[.int .i64 X1,.int .i64 Y1,.int .i64 E1],.agg #[.int .i64 X2,.int .i64 Y2,.int .i64 E2]])∧Below w.heap.size w w')
  (HD2:∀ (v:Value) (n:Nat) (w:World),cW w w.heap.size v n→Calls Tryz.prog 30 #[v] w fun e w'=>∃ a b X1 Y1 E1:Int,e=.returned (.tuple #[.agg #[.int .i64 a,.int .i64 b],.agg #[.int .i64 X1,.int .i64 Y1,.int .i64 E1]])∧Below w.heap.size w w')
  (v u:Value) (n m:Nat) (w:World) (hv:cW w w.heap.size v n) (hu:cW w w.heap.size u m) :
  Calls Tryz.prog 4 #[v,u] w fun e w'=>e=.returned (.bool true)∧Below w.heap.size w w':=by
 have Hv:=xL hv;have Hu:=xL hu;replace HD1:=xL HD1;replace HD2:=xL HD2;obtain ⟨Av,cv,rfl,hn,-⟩:=hv;obtain ⟨Au,cu,rfl,hm,-⟩:=hu;have BX:Below w.heap.size w w:=xO _ _
 by_cases hbig:1048576<wrap64 ((n:Int)+(m:Int))
 ·go_enter Tryz.func4,Tryz.ntmps4
  go_wp2;go_ret;exact ⟨rfl,BX⟩
 go_enter Tryz.func4,Tryz.ntmps4
 go_wp2_with fail
 (with_reducible refine (HD1.out _ n _ Hv.out).mono ?_);rintro r_ w1 ⟨a,b,X1,Y1,E1,X2,Y2,E2,rfl,xZ⟩
 replace BX:=d_ BX xZ;clear xZ;clear hbig hn hm HD1;have yO:=BX.size;replace BX:=BX.alloc yO (.cells #[.int .i64 a,.int .i64 b] 25);clear yO;have C:=aH.new w1 #[.int .i64 a,.int .i64 b] 25;have yO:=BX.size;replace BX:=BX.alloc yO (.cells #[.int .i64 X1,.int .i64 Y1,.int .i64 E1] 27);clear yO;replace C:=C.alloc (.cells #[.int .i64 X1,.int .i64 Y1,.int .i64 E1] 27);have Q:=aH.new (w1.alloc (.cells #[.int .i64 a,.int .i64 b] 25)) #[.int .i64 X1,.int .i64 Y1,.int .i64 E1] 27;simp only [xM] at Q;have yO:=BX.size;replace BX:=BX.alloc yO (.cells #[.int .i64 X2,.int .i64 Y2,.int .i64 E2] 27);clear yO;replace C:=C.alloc (.cells #[.int .i64 X2,.int .i64 Y2,.int .i64 E2] 27);replace Q:=Q.alloc (.cells #[.int .i64 X2,.int .i64 Y2,.int .i64 E2] 27);have U:=aH.new ((w1.alloc (.cells #[.int .i64 a,.int .i64 b] 25)).alloc (.cells #[.int .i64 X1,.int .i64 Y1,.int .i64 E1] 27)) #[.int .i64 X2,.int .i64 Y2,.int .i64 E2] 27;simp only [xM] at U
 obtain ⟨vP,Gi⟩:∃ v,M.cF a b X1 Y1 E1 X2 Y2 E2=v:=⟨_,rfl⟩
 obtain ⟨vG,Jq⟩:∃ v,M.gj a b X1 Y1 E1 X2 Y2 E2=v:=⟨_,rfl⟩
 have Hl:=fun w=>dp a b X1 Y1 E1 X2 Y2 E2 w
 rw [Gi] at Hl;replace Hl:=xL Hl
 have Hn:=fun w=>fL a b X1 Y1 E1 X2 Y2 E2 w
 rw [Gi] at Hn;replace Hn:=xL Hn
 have Ho:=fun w=>gK a b X1 Y1 E1 X2 Y2 E2 w
 rw [Gi] at Ho;replace Ho:=xL Ho
 have Hp:=fun w=>gP a b X1 Y1 E1 X2 Y2 E2 w
 rw [Gi] at Hp;replace Hp:=xL Hp
 have Hq:=fun w=>ez a b X1 Y1 E1 X2 Y2 E2 w
 rw [Jq] at Hq;replace Hq:=xL Hq
 have Hr:=fun w=>fF a b X1 Y1 E1 X2 Y2 E2 w
 rw [Jq] at Hr;replace Hr:=xL Hr
 have HZ:=fun w=>dp a b X2 Y2 E2 X1 Y1 E1 w
 have hcm:vP.isSome=true→M.cF a b X2 Y2 E2 X1 Y1 E1=vP:=fun h=>by rw [←Gi] at h ⊢;exact M.qL h
 have hgz:∀ l h,vG=some (l,h)→l≤0∧0≤h∧M.aM l h=true:=fun l h e=>M.rf (Jq.trans e)
 have hok:M.AP vP:=Gi ▸ M.qJ;clear Gi Jq;replace HZ:=xL HZ;replace hcm:=xL hcm;replace hgz:=xL hgz;replace hok:=xL hok;have ⟨zC,zD,_,_,_⟩:=C.box;have ⟨zH,zI,zJ⟩:=Q.aK;have ⟨zK,zL,zM⟩:=U.aK
 go_wp2_with fail
 (with_reducible refine (Hl.out _).mono ?_);rintro r_ w2 ⟨rfl,xZ⟩
 clear zC zD zH zI zJ zK zL zM;replace C:=C.keep xZ;replace Q:=Q.keep xZ;replace U:=U.keep xZ;replace BX:=d_ BX xZ;clear xZ;have yO:=BX.size;replace BX:=BX.alloc yO (.cells #[.int .i64 (M.xp vP),.int .i64 (M.xr vP),.int .i64 (M.xu vP),.int .i64 (M.xv vP)] 33);clear yO;replace C:=C.alloc (.cells #[.int .i64 (M.xp vP),.int .i64 (M.xr vP),.int .i64 (M.xu vP),.int .i64 (M.xv vP)] 33);replace Q:=Q.alloc (.cells #[.int .i64 (M.xp vP),.int .i64 (M.xr vP),.int .i64 (M.xu vP),.int .i64 (M.xv vP)] 33);replace U:=U.alloc (.cells #[.int .i64 (M.xp vP),.int .i64 (M.xr vP),.int .i64 (M.xu vP),.int .i64 (M.xv vP)] 33);have J1:=aH.new w2 #[.int .i64 (M.xp vP),.int .i64 (M.xr vP),.int .i64 (M.xu vP),.int .i64 (M.xv vP)] 33;have ⟨zC,zD,_,_,_⟩:=C.box;have ⟨zH,zI,zJ⟩:=Q.aK;have ⟨zK,zL,zM⟩:=U.aK
 go_wp2_with fail
 (with_reducible refine (Hn.out _).mono ?_);rintro r_ w3 ⟨rfl,xZ⟩
 clear zC zD zH zI zJ zK zL zM;replace C:=C.keep xZ;replace Q:=Q.keep xZ;replace U:=U.keep xZ;replace J1:=J1.keep xZ;replace BX:=d_ BX xZ;clear xZ;have yO:=BX.size;replace BX:=BX.alloc yO (.cells #[.int .i64 (M.xp vP),.int .i64 (M.xr vP),.int .i64 (M.xu vP),.int .i64 (M.xv vP)] 33);clear yO;replace C:=C.alloc (.cells #[.int .i64 (M.xp vP),.int .i64 (M.xr vP),.int .i64 (M.xu vP),.int .i64 (M.xv vP)] 33);replace Q:=Q.alloc (.cells #[.int .i64 (M.xp vP),.int .i64 (M.xr vP),.int .i64 (M.xu vP),.int .i64 (M.xv vP)] 33);replace U:=U.alloc (.cells #[.int .i64 (M.xp vP),.int .i64 (M.xr vP),.int .i64 (M.xu vP),.int .i64 (M.xv vP)] 33);replace J1:=J1.alloc (.cells #[.int .i64 (M.xp vP),.int .i64 (M.xr vP),.int .i64 (M.xu vP),.int .i64 (M.xv vP)] 33);have J2:=aH.new w3 #[.int .i64 (M.xp vP),.int .i64 (M.xr vP),.int .i64 (M.xu vP),.int .i64 (M.xv vP)] 33;have ⟨zC,zD,_,_,_⟩:=C.box;have ⟨zH,zI,zJ⟩:=Q.aK;have ⟨zK,zL,zM⟩:=U.aK
 go_wp2_with fail
 (with_reducible refine (Ho.out _).mono ?_);rintro r_ w4 ⟨rfl,xZ⟩
 clear zC zD zH zI zJ zK zL zM;replace C:=C.keep xZ;replace Q:=Q.keep xZ;replace U:=U.keep xZ;replace J1:=J1.keep xZ;replace J2:=J2.keep xZ;replace BX:=d_ BX xZ;clear xZ;have yO:=BX.size;replace BX:=BX.alloc yO (.cells #[.int .i64 (M.fN (M.wid vP)),.int .i64 (M.fD (M.wid vP))] 31);clear yO;replace C:=C.alloc (.cells #[.int .i64 (M.fN (M.wid vP)),.int .i64 (M.fD (M.wid vP))] 31);replace Q:=Q.alloc (.cells #[.int .i64 (M.fN (M.wid vP)),.int .i64 (M.fD (M.wid vP))] 31);replace U:=U.alloc (.cells #[.int .i64 (M.fN (M.wid vP)),.int .i64 (M.fD (M.wid vP))] 31);replace J1:=J1.alloc (.cells #[.int .i64 (M.fN (M.wid vP)),.int .i64 (M.fD (M.wid vP))] 31);replace J2:=J2.alloc (.cells #[.int .i64 (M.fN (M.wid vP)),.int .i64 (M.fD (M.wid vP))] 31);have F1:=aH.new w4 #[.int .i64 (M.fN (M.wid vP)),.int .i64 (M.fD (M.wid vP))] 31;have ⟨zC,zD,_,_,_⟩:=C.box;have ⟨zH,zI,zJ⟩:=Q.aK;have ⟨zK,zL,zM⟩:=U.aK
 go_wp2_with fail
 (with_reducible refine (Hp.out _).mono ?_);rintro r_ w5 ⟨rfl,xZ⟩
 clear zC zD zH zI zJ zK zL zM;replace C:=C.keep xZ;replace Q:=Q.keep xZ;replace U:=U.keep xZ;replace J1:=J1.keep xZ;replace J2:=J2.keep xZ;replace F1:=F1.keep xZ;replace BX:=d_ BX xZ;clear xZ;have yO:=BX.size;replace BX:=BX.alloc yO (.cells #[.int .i64 (M.fN (M.wid vP)),.int .i64 (M.fD (M.wid vP))] 31);clear yO;replace C:=C.alloc (.cells #[.int .i64 (M.fN (M.wid vP)),.int .i64 (M.fD (M.wid vP))] 31);replace Q:=Q.alloc (.cells #[.int .i64 (M.fN (M.wid vP)),.int .i64 (M.fD (M.wid vP))] 31);replace U:=U.alloc (.cells #[.int .i64 (M.fN (M.wid vP)),.int .i64 (M.fD (M.wid vP))] 31);replace J1:=J1.alloc (.cells #[.int .i64 (M.fN (M.wid vP)),.int .i64 (M.fD (M.wid vP))] 31);replace J2:=J2.alloc (.cells #[.int .i64 (M.fN (M.wid vP)),.int .i64 (M.fD (M.wid vP))] 31);replace F1:=F1.alloc (.cells #[.int .i64 (M.fN (M.wid vP)),.int .i64 (M.fD (M.wid vP))] 31);have F2:=aH.new w5 #[.int .i64 (M.fN (M.wid vP)),.int .i64 (M.fD (M.wid vP))] 31;have ⟨zC,zD,_,_,_⟩:=C.box;have ⟨zH,zI,zJ⟩:=Q.aK;have ⟨zK,zL,zM⟩:=U.aK
 go_wp2_with fail
 (with_reducible refine (Hq.out _).mono ?_);rintro r_ w6 ⟨rfl,xZ⟩
 clear zC zD zH zI zJ zK zL zM;replace C:=C.keep xZ;replace Q:=Q.keep xZ;replace U:=U.keep xZ;replace J1:=J1.keep xZ;replace J2:=J2.keep xZ;replace F1:=F1.keep xZ;replace F2:=F2.keep xZ;replace BX:=d_ BX xZ;clear xZ;have yO:=BX.size;replace BX:=BX.alloc yO (.cells #[.int .i64 (M.xp vG),.int .i64 (M.xr vG),.int .i64 (M.xu vG),.int .i64 (M.xv vG)] 33);clear yO;replace C:=C.alloc (.cells #[.int .i64 (M.xp vG),.int .i64 (M.xr vG),.int .i64 (M.xu vG),.int .i64 (M.xv vG)] 33);replace Q:=Q.alloc (.cells #[.int .i64 (M.xp vG),.int .i64 (M.xr vG),.int .i64 (M.xu vG),.int .i64 (M.xv vG)] 33);replace U:=U.alloc (.cells #[.int .i64 (M.xp vG),.int .i64 (M.xr vG),.int .i64 (M.xu vG),.int .i64 (M.xv vG)] 33);replace J1:=J1.alloc (.cells #[.int .i64 (M.xp vG),.int .i64 (M.xr vG),.int .i64 (M.xu vG),.int .i64 (M.xv vG)] 33);replace J2:=J2.alloc (.cells #[.int .i64 (M.xp vG),.int .i64 (M.xr vG),.int .i64 (M.xu vG),.int .i64 (M.xv vG)] 33);replace F1:=F1.alloc (.cells #[.int .i64 (M.xp vG),.int .i64 (M.xr vG),.int .i64 (M.xu vG),.int .i64 (M.xv vG)] 33);replace F2:=F2.alloc (.cells #[.int .i64 (M.xp vG),.int .i64 (M.xr vG),.int .i64 (M.xu vG),.int .i64 (M.xv vG)] 33);have G1:=aH.new w6 #[.int .i64 (M.xp vG),.int .i64 (M.xr vG),.int .i64 (M.xu vG),.int .i64 (M.xv vG)] 33;have ⟨zC,zD,_,_,_⟩:=C.box;have ⟨zH,zI,zJ⟩:=Q.aK;have ⟨zK,zL,zM⟩:=U.aK
 go_wp2_with fail
 (with_reducible refine (Hr.out _).mono ?_);rintro r_ w7 ⟨rfl,xZ⟩
 clear zC zD zH zI zJ zK zL zM;replace C:=C.keep xZ;replace Q:=Q.keep xZ;replace U:=U.keep xZ;replace J1:=J1.keep xZ;replace J2:=J2.keep xZ;replace F1:=F1.keep xZ;replace F2:=F2.keep xZ;replace G1:=G1.keep xZ;replace BX:=d_ BX xZ;clear xZ;have yO:=BX.size;replace BX:=BX.alloc yO (.cells #[.int .i64 (M.xp vG),.int .i64 (M.xr vG),.int .i64 (M.xu vG),.int .i64 (M.xv vG)] 33);clear yO;replace C:=C.alloc (.cells #[.int .i64 (M.xp vG),.int .i64 (M.xr vG),.int .i64 (M.xu vG),.int .i64 (M.xv vG)] 33);replace Q:=Q.alloc (.cells #[.int .i64 (M.xp vG),.int .i64 (M.xr vG),.int .i64 (M.xu vG),.int .i64 (M.xv vG)] 33);replace U:=U.alloc (.cells #[.int .i64 (M.xp vG),.int .i64 (M.xr vG),.int .i64 (M.xu vG),.int .i64 (M.xv vG)] 33);replace J1:=J1.alloc (.cells #[.int .i64 (M.xp vG),.int .i64 (M.xr vG),.int .i64 (M.xu vG),.int .i64 (M.xv vG)] 33);replace J2:=J2.alloc (.cells #[.int .i64 (M.xp vG),.int .i64 (M.xr vG),.int .i64 (M.xu vG),.int .i64 (M.xv vG)] 33);replace F1:=F1.alloc (.cells #[.int .i64 (M.xp vG),.int .i64 (M.xr vG),.int .i64 (M.xu vG),.int .i64 (M.xv vG)] 33);replace F2:=F2.alloc (.cells #[.int .i64 (M.xp vG),.int .i64 (M.xr vG),.int .i64 (M.xu vG),.int .i64 (M.xv vG)] 33);replace G1:=G1.alloc (.cells #[.int .i64 (M.xp vG),.int .i64 (M.xr vG),.int .i64 (M.xu vG),.int .i64 (M.xv vG)] 33);have G2:=aH.new w7 #[.int .i64 (M.xp vG),.int .i64 (M.xr vG),.int .i64 (M.xu vG),.int .i64 (M.xv vG)] 33;clear Hl Hn Ho Hp Hq Hr
 go_wp2_with fail
 (refine (HD2.out _ m _ ((Hu.out.dF BX).mono BX.size)).mono ?_);rintro r_ w8 ⟨c,d,X4,Y4,E4,rfl,xZ⟩
 replace C:=C.keep xZ;replace Q:=Q.keep xZ;replace U:=U.keep xZ;replace J1:=J1.keep xZ;replace J2:=J2.keep xZ;replace F1:=F1.keep xZ;replace F2:=F2.keep xZ;replace G1:=G1.keep xZ;replace G2:=G2.keep xZ;replace BX:=d_ BX xZ;clear xZ HD2 Hu Hv;have yO:=BX.size;replace BX:=BX.alloc yO (.cells #[.int .i64 c,.int .i64 d] 25);clear yO;replace C:=C.alloc (.cells #[.int .i64 c,.int .i64 d] 25);replace Q:=Q.alloc (.cells #[.int .i64 c,.int .i64 d] 25);replace U:=U.alloc (.cells #[.int .i64 c,.int .i64 d] 25);replace J1:=J1.alloc (.cells #[.int .i64 c,.int .i64 d] 25);replace J2:=J2.alloc (.cells #[.int .i64 c,.int .i64 d] 25);replace F1:=F1.alloc (.cells #[.int .i64 c,.int .i64 d] 25);replace F2:=F2.alloc (.cells #[.int .i64 c,.int .i64 d] 25);replace G1:=G1.alloc (.cells #[.int .i64 c,.int .i64 d] 25);replace G2:=G2.alloc (.cells #[.int .i64 c,.int .i64 d] 25);have C2:=aH.new w8 #[.int .i64 c,.int .i64 d] 25;have yO:=BX.size;replace BX:=BX.alloc yO (.cells #[.int .i64 X4,.int .i64 Y4,.int .i64 E4] 27);clear yO;replace C:=C.alloc (.cells #[.int .i64 X4,.int .i64 Y4,.int .i64 E4] 27);replace Q:=Q.alloc (.cells #[.int .i64 X4,.int .i64 Y4,.int .i64 E4] 27);replace U:=U.alloc (.cells #[.int .i64 X4,.int .i64 Y4,.int .i64 E4] 27);replace J1:=J1.alloc (.cells #[.int .i64 X4,.int .i64 Y4,.int .i64 E4] 27);replace J2:=J2.alloc (.cells #[.int .i64 X4,.int .i64 Y4,.int .i64 E4] 27);replace F1:=F1.alloc (.cells #[.int .i64 X4,.int .i64 Y4,.int .i64 E4] 27);replace F2:=F2.alloc (.cells #[.int .i64 X4,.int .i64 Y4,.int .i64 E4] 27);replace G1:=G1.alloc (.cells #[.int .i64 X4,.int .i64 Y4,.int .i64 E4] 27);replace G2:=G2.alloc (.cells #[.int .i64 X4,.int .i64 Y4,.int .i64 E4] 27);replace C2:=C2.alloc (.cells #[.int .i64 X4,.int .i64 Y4,.int .i64 E4] 27);have Q2:=aH.new (w8.alloc (.cells #[.int .i64 c,.int .i64 d] 25)) #[.int .i64 X4,.int .i64 Y4,.int .i64 E4] 27;simp only [xM] at Q2
 obtain ⟨vS,Is⟩:∃ v,M.eR c d X4 Y4 E4=v:=⟨_,rfl⟩
 obtain ⟨vT,Nb⟩:∃ v,M.cF c d X4 Y4 E4 X4 Y4 E4=v:=⟨_,rfl⟩
 obtain ⟨vB,hvB⟩:∃ v,M.dY c d X4 Y4 E4=v:=⟨_,rfl⟩
 obtain ⟨kB,hkB⟩:∃ v,M.l9 c d X4 Y4 E4=v:=⟨_,rfl⟩
 have Hs:=fun w=>gn c d X4 Y4 E4 w
 rw [Is] at Hs;replace Hs:=xL Hs
 have Ht:=fun w=>iA c d X4 Y4 E4 w
 rw [Is] at Ht;replace Ht:=xL Ht
 have Bj:=fun w=>iM c d X4 Y4 E4 w
 rw [hvB,hkB] at Bj;replace Bj:=xL Bj
 have Bk:=fun w=>iT c d X4 Y4 E4 w
 rw [hvB,hkB] at Bk;replace Bk:=xL Bk
 have BQ:=fun w=>dp c d X4 Y4 E4 X4 Y4 E4 w
 rw [Nb] at BQ;replace BQ:=xL BQ
 have hS:∀ l h,vS=some (l,h)→∃ l1 u1,vB=some (l1,u1)∧(0≤l1∧l1≤u1∧u1≤150000)∧l=l1+l1∧h=u1+u1:=fun l h e=>by
  obtain ⟨l1,u1,q1,q2,q3,q4,-⟩:=M.pU (Is.trans e);exact ⟨l1,u1,hvB.symm.trans q1,⟨q2.lo,q2.le,q2.hi⟩,q3,q4⟩
 have hT:∀ l h l' h',vS=some (l,h)→vT=some (l',h')→l≤h'∧l'≤h∧M.aM l' h'=true:=fun l h l' h' e e'=>M.twice (Is.trans e) (Nb.trans e')
 clear Is Nb hvB hkB;replace hS:=xL hS;replace hT:=xL hT;have ⟨yp,yt,_,_,_⟩:=C2.box;have ⟨yu,yv,yw⟩:=Q2.aK
 go_wp2_with fail
 (with_reducible refine (Hs.out _).mono ?_);rintro r_ w9 ⟨rfl,xZ⟩
 clear yp yt yu yv yw;replace C:=C.keep xZ;replace Q:=Q.keep xZ;replace U:=U.keep xZ;replace J1:=J1.keep xZ;replace J2:=J2.keep xZ;replace F1:=F1.keep xZ;replace F2:=F2.keep xZ;replace G1:=G1.keep xZ;replace G2:=G2.keep xZ;replace C2:=C2.keep xZ;replace Q2:=Q2.keep xZ;replace BX:=d_ BX xZ;clear xZ;have yO:=BX.size;replace BX:=BX.alloc yO (.cells #[.int .i64 (M.xp vS),.int .i64 (M.xr vS),.int .i64 (M.xu vS),.int .i64 (M.xv vS)] 33);clear yO;replace C:=C.alloc (.cells #[.int .i64 (M.xp vS),.int .i64 (M.xr vS),.int .i64 (M.xu vS),.int .i64 (M.xv vS)] 33);replace Q:=Q.alloc (.cells #[.int .i64 (M.xp vS),.int .i64 (M.xr vS),.int .i64 (M.xu vS),.int .i64 (M.xv vS)] 33);replace U:=U.alloc (.cells #[.int .i64 (M.xp vS),.int .i64 (M.xr vS),.int .i64 (M.xu vS),.int .i64 (M.xv vS)] 33);replace J1:=J1.alloc (.cells #[.int .i64 (M.xp vS),.int .i64 (M.xr vS),.int .i64 (M.xu vS),.int .i64 (M.xv vS)] 33);replace J2:=J2.alloc (.cells #[.int .i64 (M.xp vS),.int .i64 (M.xr vS),.int .i64 (M.xu vS),.int .i64 (M.xv vS)] 33);replace F1:=F1.alloc (.cells #[.int .i64 (M.xp vS),.int .i64 (M.xr vS),.int .i64 (M.xu vS),.int .i64 (M.xv vS)] 33);replace F2:=F2.alloc (.cells #[.int .i64 (M.xp vS),.int .i64 (M.xr vS),.int .i64 (M.xu vS),.int .i64 (M.xv vS)] 33);replace G1:=G1.alloc (.cells #[.int .i64 (M.xp vS),.int .i64 (M.xr vS),.int .i64 (M.xu vS),.int .i64 (M.xv vS)] 33);replace G2:=G2.alloc (.cells #[.int .i64 (M.xp vS),.int .i64 (M.xr vS),.int .i64 (M.xu vS),.int .i64 (M.xv vS)] 33);replace C2:=C2.alloc (.cells #[.int .i64 (M.xp vS),.int .i64 (M.xr vS),.int .i64 (M.xu vS),.int .i64 (M.xv vS)] 33);replace Q2:=Q2.alloc (.cells #[.int .i64 (M.xp vS),.int .i64 (M.xr vS),.int .i64 (M.xu vS),.int .i64 (M.xv vS)] 33);have S1:=aH.new w9 #[.int .i64 (M.xp vS),.int .i64 (M.xr vS),.int .i64 (M.xu vS),.int .i64 (M.xv vS)] 33;have ⟨yp,yt,_,_,_⟩:=C2.box;have ⟨yu,yv,yw⟩:=Q2.aK
 go_wp2_with fail
 (with_reducible refine (Ht.out _).mono ?_);rintro r_ EY ⟨rfl,xZ⟩
 clear yp yt yu yv yw;replace C:=C.keep xZ;replace Q:=Q.keep xZ;replace U:=U.keep xZ;replace J1:=J1.keep xZ;replace J2:=J2.keep xZ;replace F1:=F1.keep xZ;replace F2:=F2.keep xZ;replace G1:=G1.keep xZ;replace G2:=G2.keep xZ;replace C2:=C2.keep xZ;replace Q2:=Q2.keep xZ;replace S1:=S1.keep xZ;replace BX:=d_ BX xZ;clear xZ;have yO:=BX.size;replace BX:=BX.alloc yO (.cells #[.int .i64 (M.xp vS),.int .i64 (M.xr vS),.int .i64 (M.xu vS),.int .i64 (M.xv vS)] 33);clear yO;replace C:=C.alloc (.cells #[.int .i64 (M.xp vS),.int .i64 (M.xr vS),.int .i64 (M.xu vS),.int .i64 (M.xv vS)] 33);replace Q:=Q.alloc (.cells #[.int .i64 (M.xp vS),.int .i64 (M.xr vS),.int .i64 (M.xu vS),.int .i64 (M.xv vS)] 33);replace U:=U.alloc (.cells #[.int .i64 (M.xp vS),.int .i64 (M.xr vS),.int .i64 (M.xu vS),.int .i64 (M.xv vS)] 33);replace J1:=J1.alloc (.cells #[.int .i64 (M.xp vS),.int .i64 (M.xr vS),.int .i64 (M.xu vS),.int .i64 (M.xv vS)] 33);replace J2:=J2.alloc (.cells #[.int .i64 (M.xp vS),.int .i64 (M.xr vS),.int .i64 (M.xu vS),.int .i64 (M.xv vS)] 33);replace F1:=F1.alloc (.cells #[.int .i64 (M.xp vS),.int .i64 (M.xr vS),.int .i64 (M.xu vS),.int .i64 (M.xv vS)] 33);replace F2:=F2.alloc (.cells #[.int .i64 (M.xp vS),.int .i64 (M.xr vS),.int .i64 (M.xu vS),.int .i64 (M.xv vS)] 33);replace G1:=G1.alloc (.cells #[.int .i64 (M.xp vS),.int .i64 (M.xr vS),.int .i64 (M.xu vS),.int .i64 (M.xv vS)] 33);replace G2:=G2.alloc (.cells #[.int .i64 (M.xp vS),.int .i64 (M.xr vS),.int .i64 (M.xu vS),.int .i64 (M.xv vS)] 33);replace C2:=C2.alloc (.cells #[.int .i64 (M.xp vS),.int .i64 (M.xr vS),.int .i64 (M.xu vS),.int .i64 (M.xv vS)] 33);replace Q2:=Q2.alloc (.cells #[.int .i64 (M.xp vS),.int .i64 (M.xr vS),.int .i64 (M.xu vS),.int .i64 (M.xv vS)] 33);replace S1:=S1.alloc (.cells #[.int .i64 (M.xp vS),.int .i64 (M.xr vS),.int .i64 (M.xu vS),.int .i64 (M.xv vS)] 33);have S2:=aH.new EY #[.int .i64 (M.xp vS),.int .i64 (M.xr vS),.int .i64 (M.xu vS),.int .i64 (M.xv vS)] 33;clear Hs Ht
 go_upto_region 13 with fail
 generalize (EY.alloc (.cells #[.int .i64 (M.xp vS),.int .i64 (M.xr vS),.int .i64 (M.xu vS),.int .i64 (M.xv vS)] 33))=wp at *
 go_cut [151] from 107 to 151 (fun s wx=>s=.bool false∧wp=wx)
 case first=>as_aux_lemma=>
  have hwf:vP.isSome=false→(M.wid vP).isSome=false:=fun h=>by
   cases vP with
   | none=>rfl
   | some p=>cases h
  have ⟨D8,D9,D_,EA,_,_,_,_,_⟩:=J1.aN;have ⟨BU,BV,BW,BZ,_,_,_,_,_⟩:=J2.aN;have ⟨N7,N8,_,_,_⟩:=F1.box;have ⟨N9,OA,_,_,_⟩:=F2.box;have ⟨OB,OC,OD,OE,_,_,_,_,_⟩:=G1.aN;have ⟨Gv,Gw,Gx,Gy,_,_,_,_,_⟩:=G2.aN;have ⟨OG,OH,OI,OJ,_,_,_,_,_⟩:=S1.aN;have ⟨zh,zk,zl,zo,_,_,_,_,_⟩:=S2.aN;clear HZ Bj Bk BQ hcm hgz hok hS hT BX C Q U J1 J2 F1 F2 G1 G2 C2 Q2 S1 S2;generalize vS.isSome=sS,vG.isSome=sG,vP.isSome=sP,(M.wid vP).isSome=ow,M.fD (M.wid vP)=f2,M.fN (M.wid vP)=f1,M.xv vS=s4,M.xu vS=s3,M.xr vS=s2,M.xp vS=s1,M.xv vG=g4,M.xu vG=g3,M.xr vG=g2,M.xp vG=g1,M.xv vP=p4,M.xu vP=p3,M.xr vP=p2,M.xp vP=p1 at *;cases sP
  ·obtain rfl:=hwf rfl
   clear hwf
   cases sG <;> cases sS <;> (go_wp2_with fail;go_meet;exact ⟨rfl,rfl⟩)
  clear hwf
  cases ow <;> cases sG <;> cases sS <;> (go_wp2_with fail;go_meet;exact ⟨rfl,rfl⟩)
 case rest=>as_aux_lemma=>
 obtain ⟨rfl,rfl⟩:=hcut;clear F1;clear F2;clear G1
 go_upto_if 152 with fail
 go_cut [26,27] from 153 to 178 (fun _ _ wx=>Below wp.heap.size wp wx)
 case first=>as_aux_lemma=>
  clear hgz hS hT Bj Bk BQ;have Bq:Below wp.heap.size wp wp:=xO _ _
  cases vP with
  | none=>
   go_wp2
   go_meet
   exact xO _ _
  | some p=>
  obtain ⟨lo,hi⟩:=p;have xS:=hcm.out rfl;have hsp:M.aM lo hi=true:=hok.out _ rfl;obtain ⟨Bb,BP,ET⟩:=M.bQ hsp;have E7:=HZ.out;rw [xS] at E7
  have PI:=fun W=>kc lo hi W hsp
  have L1:=fun W=>i9 hi lo W (by omega) (by omega) (by omega) (by omega)
  rw [decide_eq_false (show ¬ hi<lo by omega)] at L1;clear HZ hcm hok xS hsp Bb BP ET BX
  replace E7:=(show ∀ W,Calls Tryz.prog 24 #[.agg #[.int .i64 a,.int .i64 b],.agg #[.int .i64 X2,.int .i64 Y2,.int .i64 E2],.agg #[.int .i64 X1,.int .i64 Y1,.int .i64 E1]] W fun e w'=>e=.returned (.tuple #[.agg #[.int .i64 (M.pn lo),.int .i64 (M.pd lo),.int .i64 (M.pn hi),.int .i64 (M.pd hi)],.bool true])∧Below W.heap.size W w' from E7)
  replace J2:aH wp _ 33 #[.int .i64 (M.pn lo),.int .i64 (M.pd lo),.int .i64 (M.pn hi),.int .i64 (M.pd hi)]:=J2;replace J1:aH wp _ 33 #[.int .i64 (M.pn lo),.int .i64 (M.pd lo),.int .i64 (M.pn hi),.int .i64 (M.pd hi)]:=J1;generalize M.pd hi=i4,M.pn hi=i3,M.pd lo=i2,M.pn lo=i1 at *;replace E7:=xL E7;replace PI:=xL PI;replace L1:=xL L1;clear G2 C2 Q2 S1 S2;have ⟨zC,zD,_,_,_⟩:=C.box;have ⟨zK,zL,zM⟩:=U.aK;have ⟨zH,zI,zJ⟩:=Q.aK
  go_wp2_with fail
  (with_reducible refine (E7.out _).mono ?_);rintro r_ x1 ⟨rfl,xZ⟩
  clear zC zD zK zL zM zH zI zJ;replace C:=C.keep xZ;replace Q:=Q.keep xZ;replace U:=U.keep xZ;replace J1:=J1.keep xZ;replace J2:=J2.keep xZ;replace Bq:=d_ Bq xZ;clear xZ;have yO:=Bq.size;replace Bq:=Bq.alloc yO (.cells #[.int .i64 i1,.int .i64 i2,.int .i64 i3,.int .i64 i4] 33);clear yO;replace C:=C.alloc (.cells #[.int .i64 i1,.int .i64 i2,.int .i64 i3,.int .i64 i4] 33);replace Q:=Q.alloc (.cells #[.int .i64 i1,.int .i64 i2,.int .i64 i3,.int .i64 i4] 33);replace U:=U.alloc (.cells #[.int .i64 i1,.int .i64 i2,.int .i64 i3,.int .i64 i4] 33);replace J1:=J1.alloc (.cells #[.int .i64 i1,.int .i64 i2,.int .i64 i3,.int .i64 i4] 33);replace J2:=J2.alloc (.cells #[.int .i64 i1,.int .i64 i2,.int .i64 i3,.int .i64 i4] 33);have J3:=aH.new x1 #[.int .i64 i1,.int .i64 i2,.int .i64 i3,.int .i64 i4] 33;have ⟨D8,D9,D_,EA,_,_,_,_,_⟩:=J1.aN
  go_wp2_with fail
  (with_reducible refine (PI.out _).mono ?_);rintro r_ x2 ⟨rfl,xZ⟩
  clear D8 D9 D_ EA;replace C:=C.keep xZ;replace Q:=Q.keep xZ;replace U:=U.keep xZ;replace J1:=J1.keep xZ;replace J2:=J2.keep xZ;replace J3:=J3.keep xZ;replace Bq:=d_ Bq xZ;clear xZ;have ⟨BU,BV,BW,BZ,_,_,_,_,_⟩:=J2.aN;have ⟨Ce,Cf,Cg,Ch,_,_,_,_,_⟩:=J3.aN
  go_wp2_with fail
  (with_reducible refine (L1.out _).mono ?_);rintro r_ x3 ⟨rfl,xZ⟩
  clear BU BV BW BZ Ce Cf Cg Ch;replace C:=C.keep xZ;replace Q:=Q.keep xZ;replace U:=U.keep xZ;replace J1:=J1.keep xZ;replace J2:=J2.keep xZ;replace J3:=J3.keep xZ;replace Bq:=d_ Bq xZ;clear xZ;have ⟨BU,BV,BW,BZ,_,_,_,_,_⟩:=J2.aN;have ⟨Ce,Cf,Cg,Ch,_,_,_,_,_⟩:=J3.aN
  go_wp2_with fail
  (with_reducible refine (L1.out _).mono ?_);rintro r_ x4 ⟨rfl,xZ⟩
  clear BU BV BW BZ Ce Cf Cg Ch;replace C:=C.keep xZ;replace Q:=Q.keep xZ;replace U:=U.keep xZ;replace J1:=J1.keep xZ;replace J2:=J2.keep xZ;replace J3:=J3.keep xZ;replace Bq:=d_ Bq xZ;clear xZ
  go_wp2_with fail
  go_meet
  exact Bq
 case rest=>as_aux_lemma=>
 clear J1;clear J2;clear C;clear Q;clear U;replace G2:=G2.keep hcut;replace C2:=C2.keep hcut;replace Q2:=Q2.keep hcut;replace S1:=S1.keep hcut;replace S2:=S2.keep hcut;replace BX:=d_ BX hcut;clear hcut HZ hcm hok;generalize wc=wr at *
 go_upto_region 21 with fail
 go_cut [185] from 179 to 185 (fun s wx=>s=.bool false∧Below wr.heap.size wr wx)
 case first=>as_aux_lemma=>
  clear hS hT Bj Bk BQ BX C2 Q2 S1 S2
  cases vG with
  | none=>
   go_wp2
   go_meet
   exact ⟨rfl,xO _ _⟩
  | some p=>
  obtain ⟨lo,hi⟩:=p;obtain ⟨Bb,BP,ET⟩:=hgz.out lo hi rfl;obtain ⟨-,Ha,h5_⟩:=M.bQ ET
  have QZ:=fun W=>vV lo hi W Ha Bb BP h5_
  clear hgz Bb BP ET Ha h5_;replace G2:aH wr _ 33 #[.int .i64 (M.pn lo),.int .i64 (M.pd lo),.int .i64 (M.pn hi),.int .i64 (M.pd hi)]:=G2;generalize M.pd hi=i4,M.pn hi=i3,M.pd lo=i2,M.pn lo=i1 at *;replace QZ:=xL QZ;have ⟨Gv,Gw,Gx,Gy,_,_,_,_,_⟩:=G2.aN
  go_wp2_with fail
  (with_reducible refine (QZ.out _).mono ?_);rintro r_ x1 ⟨rfl,xZ⟩
  go_wp2_with fail
  go_meet
  exact ⟨rfl,xZ⟩
 case rest=>as_aux_lemma=>
 obtain ⟨rfl,xZ⟩:=hcut;clear G2 hgz;replace C2:=C2.keep xZ;replace Q2:=Q2.keep xZ;replace S1:=S1.keep xZ;replace S2:=S2.keep xZ;replace BX:=d_ BX xZ;clear xZ;generalize wc=wt at *
 cases vS with
 | none=>
  go_wp2;go_ret;exact ⟨rfl,BX⟩
 | some p=>
 obtain ⟨l,h⟩:=p;obtain ⟨l1,u1,rfl,⟨ES,b2_,b3_⟩,xo,xk⟩:=hS.out l h rfl
 have L1:=fun W=>i9 h l1 W (by omega) (by omega) (by omega) (by omega)
 rw [decide_eq_false (show ¬ h<l1 by omega)] at L1
 have yO:¬ M.pn l<0:=by
  have:=(M.mi (x:=l) (by omega) (by omega)).2.2.2;omega
 have hbl:-409600000≤l∧l≤409600000∧-409600000≤h∧h≤409600000:=by omega
 clear hS ES b2_ b3_ xo xk;replace L1:=xL L1;replace S1:aH wt _ 33 #[.int .i64 (M.pn l),.int .i64 (M.pd l),.int .i64 (M.pn h),.int .i64 (M.pd h)]:=S1;replace S2:aH wt _ 33 #[.int .i64 (M.pn l),.int .i64 (M.pd l),.int .i64 (M.pn h),.int .i64 (M.pd h)]:=S2
 have Cs:∀ W,Calls Tryz.prog 10 #[.agg #[.int .i64 c,.int .i64 d],.agg #[.int .i64 X4,.int .i64 Y4,.int .i64 E4]] W fun e w'=>e=.returned (.tuple #[.agg #[.int .i64 (M.pn l1),.int .i64 (M.pd l1),.int .i64 (M.pn u1),.int .i64 (M.pd u1)],.int .i64 kB,.bool true])∧Below W.heap.size W w':=Bj.out
 clear Bj;replace Cs:=xL Cs
 have Ct:∀ W,Calls Tryz.prog 11 #[.agg #[.int .i64 c,.int .i64 d],.agg #[.int .i64 X4,.int .i64 Y4,.int .i64 E4]] W fun e w'=>e=.returned (.tuple #[.agg #[.int .i64 (M.pn l1),.int .i64 (M.pd l1),.int .i64 (M.pn u1),.int .i64 (M.pd u1)],.int .i64 kB,.bool true])∧Below W.heap.size W w':=Bk.out
 clear Bk;replace Ct:=xL Ct;clear S1;have ⟨yp,yt,_,_,_⟩:=C2.box;have ⟨yu,yv,yw⟩:=Q2.aK
 go_wp2_with fail
 (with_reducible refine (Cs.out _).mono ?_);rintro r_ y1 ⟨rfl,xZ⟩
 clear yp yt yu yv yw;replace C2:=C2.keep xZ;replace Q2:=Q2.keep xZ;replace S2:=S2.keep xZ;replace BX:=d_ BX xZ;clear xZ;have yO:=BX.size;replace BX:=BX.alloc yO (.cells #[.int .i64 (M.pn l1),.int .i64 (M.pd l1),.int .i64 (M.pn u1),.int .i64 (M.pd u1)] 33);clear yO;replace C2:=C2.alloc (.cells #[.int .i64 (M.pn l1),.int .i64 (M.pd l1),.int .i64 (M.pn u1),.int .i64 (M.pd u1)] 33);replace Q2:=Q2.alloc (.cells #[.int .i64 (M.pn l1),.int .i64 (M.pd l1),.int .i64 (M.pn u1),.int .i64 (M.pd u1)] 33);replace S2:=S2.alloc (.cells #[.int .i64 (M.pn l1),.int .i64 (M.pd l1),.int .i64 (M.pn u1),.int .i64 (M.pd u1)] 33);have K1:=aH.new y1 #[.int .i64 (M.pn l1),.int .i64 (M.pd l1),.int .i64 (M.pn u1),.int .i64 (M.pd u1)] 33;have ⟨yp,yt,_,_,_⟩:=C2.box;have ⟨yu,yv,yw⟩:=Q2.aK
 go_wp2_with fail
 (with_reducible refine (Ct.out _).mono ?_);rintro r_ y2 ⟨rfl,xZ⟩
 clear yp yt yu yv yw;replace C2:=C2.keep xZ;replace Q2:=Q2.keep xZ;replace S2:=S2.keep xZ;replace K1:=K1.keep xZ;replace BX:=d_ BX xZ;clear xZ;have yO:=BX.size;replace BX:=BX.alloc yO (.cells #[.int .i64 (M.pn l1),.int .i64 (M.pd l1),.int .i64 (M.pn u1),.int .i64 (M.pd u1)] 33);clear yO;replace C2:=C2.alloc (.cells #[.int .i64 (M.pn l1),.int .i64 (M.pd l1),.int .i64 (M.pn u1),.int .i64 (M.pd u1)] 33);replace Q2:=Q2.alloc (.cells #[.int .i64 (M.pn l1),.int .i64 (M.pd l1),.int .i64 (M.pn u1),.int .i64 (M.pd u1)] 33);replace S2:=S2.alloc (.cells #[.int .i64 (M.pn l1),.int .i64 (M.pd l1),.int .i64 (M.pn u1),.int .i64 (M.pd u1)] 33);replace K1:=K1.alloc (.cells #[.int .i64 (M.pn l1),.int .i64 (M.pd l1),.int .i64 (M.pn u1),.int .i64 (M.pd u1)] 33);have K2:=aH.new y2 #[.int .i64 (M.pn l1),.int .i64 (M.pd l1),.int .i64 (M.pn u1),.int .i64 (M.pd u1)] 33;have ⟨Gz,G0,G3,G4,_,_,_,_,_⟩:=K1.aN;have ⟨G5,G6,G7,G8,_,_,_,_,_⟩:=K2.aN;have ⟨zh,zk,zl,zo,_,_,_,_,_⟩:=S2.aN
 go_wp2_with fail
 (with_reducible refine (L1.out _).mono ?_);rintro r_ y3 ⟨rfl,xZ⟩
 clear Gz G0 G3 G4 G5 G6 G7 G8 zh zk zl zo;replace C2:=C2.keep xZ;replace Q2:=Q2.keep xZ;replace S2:=S2.keep xZ;replace K1:=K1.keep xZ;replace K2:=K2.keep xZ;replace BX:=d_ BX xZ;clear xZ;clear K1 K2 Cs Ct L1;have ⟨zh,zk,zl,zo,_,_,_,_,_⟩:=S2.aN
 go_upto_region 28 with fail
 clear zh zk zl zo
 cases vT with
 | none=>
  have ⟨yp,yt,_,_,_⟩:=C2.box;have ⟨yu,yv,yw⟩:=Q2.aK
  go_wp2_with fail
  (with_reducible refine (BQ.out _).mono ?_);rintro r_ y4 ⟨rfl,xZ⟩
  clear yp yt yu yv yw;replace C2:=C2.keep xZ;replace Q2:=Q2.keep xZ;replace S2:=S2.keep xZ;replace BX:=d_ BX xZ;clear xZ;have yO:=BX.size;replace BX:=BX.alloc yO (.cells #[.int .i64 (M.xp none),.int .i64 (M.xr none),.int .i64 (M.xu none),.int .i64 (M.xv none)] 33);clear yO;replace C2:=C2.alloc (.cells #[.int .i64 (M.xp none),.int .i64 (M.xr none),.int .i64 (M.xu none),.int .i64 (M.xv none)] 33);replace Q2:=Q2.alloc (.cells #[.int .i64 (M.xp none),.int .i64 (M.xr none),.int .i64 (M.xu none),.int .i64 (M.xv none)] 33);replace S2:=S2.alloc (.cells #[.int .i64 (M.xp none),.int .i64 (M.xr none),.int .i64 (M.xu none),.int .i64 (M.xv none)] 33);have TT:=aH.new y4 #[.int .i64 (M.xp none),.int .i64 (M.xr none),.int .i64 (M.xu none),.int .i64 (M.xv none)] 33;go_wp2;go_ret;exact ⟨rfl,BX⟩
 | some p=>
 obtain ⟨l',h'⟩:=p;obtain ⟨m1_,m2_,Ns⟩:=hT.out l h l' h' rfl rfl;obtain ⟨-,m4_,m5_⟩:=M.bQ Ns;have m6_:=(M.bQ Ns).1
 have L2:=fun W=>i9 h' l W (by omega) m5_ hbl.1 hbl.2.1
 rw [decide_eq_false (show ¬ h'<l by omega)] at L2
 have L3:=fun W=>i9 h l' W hbl.2.2.1 hbl.2.2.2 m4_ (by omega)
 rw [decide_eq_false (show ¬ h<l' by omega)] at L3;clear hT m1_ m2_ Ns m4_ m5_ m6_ hbl;replace L2:=xL L2;replace L3:=xL L3
 have Fm:∀ W,Calls Tryz.prog 24 #[.agg #[.int .i64 c,.int .i64 d],.agg #[.int .i64 X4,.int .i64 Y4,.int .i64 E4],.agg #[.int .i64 X4,.int .i64 Y4,.int .i64 E4]] W fun e w'=>e=.returned (.tuple #[.agg #[.int .i64 (M.pn l'),.int .i64 (M.pd l'),.int .i64 (M.pn h'),.int .i64 (M.pd h')],.bool true])∧Below W.heap.size W w':=BQ.out
 clear BQ;replace Fm:=xL Fm;have ⟨yp,yt,_,_,_⟩:=C2.box;have ⟨yu,yv,yw⟩:=Q2.aK
 go_wp2_with fail
 (with_reducible refine (Fm.out _).mono ?_);rintro r_ y4 ⟨rfl,xZ⟩
 clear yp yt yu yv yw;replace C2:=C2.keep xZ;replace Q2:=Q2.keep xZ;replace S2:=S2.keep xZ;replace BX:=d_ BX xZ;clear xZ;have yO:=BX.size;replace BX:=BX.alloc yO (.cells #[.int .i64 (M.pn l'),.int .i64 (M.pd l'),.int .i64 (M.pn h'),.int .i64 (M.pd h')] 33);clear yO;replace C2:=C2.alloc (.cells #[.int .i64 (M.pn l'),.int .i64 (M.pd l'),.int .i64 (M.pn h'),.int .i64 (M.pd h')] 33);replace Q2:=Q2.alloc (.cells #[.int .i64 (M.pn l'),.int .i64 (M.pd l'),.int .i64 (M.pn h'),.int .i64 (M.pd h')] 33);replace S2:=S2.alloc (.cells #[.int .i64 (M.pn l'),.int .i64 (M.pd l'),.int .i64 (M.pn h'),.int .i64 (M.pd h')] 33);have TT:=aH.new y4 #[.int .i64 (M.pn l'),.int .i64 (M.pd l'),.int .i64 (M.pn h'),.int .i64 (M.pd h')] 33;have ⟨Ci,Cj,Ck,Cm,_,_,_,_,_⟩:=TT.aN;have ⟨zh,zk,zl,zo,_,_,_,_,_⟩:=S2.aN
 go_wp2_with fail
 (with_reducible refine (L2.out _).mono ?_);rintro r_ y5 ⟨rfl,xZ⟩
 clear Ci Cj Ck Cm zh zk zl zo;replace C2:=C2.keep xZ;replace Q2:=Q2.keep xZ;replace S2:=S2.keep xZ;replace TT:=TT.keep xZ;replace BX:=d_ BX xZ;clear xZ;have ⟨Ci,Cj,Ck,Cm,_,_,_,_,_⟩:=TT.aN;have ⟨zh,zk,zl,zo,_,_,_,_,_⟩:=S2.aN
 go_wp2_with fail
 (with_reducible refine (L3.out _).mono ?_);rintro r_ y6 ⟨rfl,xZ⟩
 clear Ci Cj Ck Cm zh zk zl zo;replace C2:=C2.keep xZ;replace Q2:=Q2.keep xZ;replace S2:=S2.keep xZ;replace TT:=TT.keep xZ;replace BX:=d_ BX xZ;clear xZ;go_wp2;go_ret;exact ⟨rfl,BX⟩
theorem io (v:Value) (n:Nat) (w:World) (h:cW w w.heap.size v n) :
  Calls Tryz.prog 23 #[v] w fun e w'=>∃ a b X1 Y1 E1 X2 Y2 E2:Int,e=.returned (.tuple #[.agg #[.int .i64 a,.int .i64 b],.agg #[.int .i64 X1,.int .i64 Y1,.int .i64 E1],.agg #[.int .i64 X2,.int .i64 Y2,.int .i64 E2]])∧Below w.heap.size w w':=by
 obtain ⟨A,cap,rfl,hn,xZ⟩:=h
 have h:cW w w.heap.size (.slice A n cap) n:=⟨A,cap,rfl,hn,xZ⟩
 clear xZ hn;obtain ⟨wc,hw3,R,Q,U,BB⟩:=fM w #[.int .i64 0,.int .i64 0] 25 #[.int .i64 0,.int .i64 0,.int .i64 0] 27 #[.int .i64 0,.int .i64 0,.int .i64 0] 27;have st:=St.wV h BB 90;have zc:=U.lt;have zw:=BB.size;replace R:=R.alloc (.cells #[.slice A n cap,.int .i64 0,.int .u64 0] 90);replace Q:=Q.alloc (.cells #[.slice A n cap,.int .i64 0,.int .u64 0] 90);replace U:=U.alloc (.cells #[.slice A n cap,.int .i64 0,.int .u64 0] 90)
 have nR:w.heap.size≠wc.heap.size:=by omega
 have nQ:w.heap.size+1≠wc.heap.size:=by omega
 have nU:w.heap.size+1+1≠wc.heap.size:=by omega
 clear h BB;go_enter Tryz.func23,Tryz.ntmps23
 go_wp2_with fail
 refine (ig _ w.heap.size _ n _ _ st.cur (by omega)).mono ?_;rintro e Ba ⟨a,b,X1,Y1,E1,X2,Y2,E2,rfl,xS,p_⟩;replace st:=st.call xS p_;have FN:=p_.size;replace R:=R.aV p_ nR;replace Q:=Q.aV p_ nQ;replace U:=U.aV p_ nU;clear xS p_;have B:=st.um zw;clear st;have ⟨Ar,As,t_,xQ,At⟩:=R.box;have ⟨CN,CO,CP,AH,AJ,AK⟩:=Q.bg;have CQ:=Q.lt;have ⟨Cx,Cy,Cz,yL,yM,AV⟩:=U.bg;have C0:=U.lt;go_wp2;exact bodyPost_ret (v:=.tuple #[.agg #[.int .i64 a,.int .i64 b],.agg #[.int .i64 X1,.int .i64 Y1,.int .i64 E1],.agg #[.int .i64 X2,.int .i64 Y2,.int .i64 E2]]) (by simp [results,Tryz.results23,go_sem, *]) rfl (⟨a,b,X1,Y1,E1,X2,Y2,E2,rfl,(xN (xN (xN (xN (xN (xN (xN (xN B (by dsimp only;omega) _) (by dsimp only;omega) _) (by dsimp only;omega) _) (by dsimp only;omega) _) (by dsimp only;omega) _) (by dsimp only;omega) _) (by dsimp only;omega) _) (by dsimp only;omega) _)⟩)
theorem ge (v:Value) (n:Nat) (w:World) (h:cW w w.heap.size v n) :
  Calls Tryz.prog 30 #[v] w fun e w'=>∃ a b X1 Y1 E1:Int,e=.returned (.tuple #[.agg #[.int .i64 a,.int .i64 b],.agg #[.int .i64 X1,.int .i64 Y1,.int .i64 E1]])∧Below w.heap.size w w':=by
 obtain ⟨A,cap,rfl,hn,xZ⟩:=h
 have h:cW w w.heap.size (.slice A n cap) n:=⟨A,cap,rfl,hn,xZ⟩
 clear xZ hn;obtain ⟨wc,hw3,R,Q,BB⟩:=iD w #[.int .i64 0,.int .i64 0] 25 #[.int .i64 0,.int .i64 0,.int .i64 0] 27;have st:=St.wV h BB 90;have zc:=Q.lt;have zw:=BB.size;replace R:=R.alloc (.cells #[.slice A n cap,.int .i64 0,.int .u64 0] 90);replace Q:=Q.alloc (.cells #[.slice A n cap,.int .i64 0,.int .u64 0] 90)
 have nR:w.heap.size≠wc.heap.size:=by omega
 have nQ:w.heap.size+1≠wc.heap.size:=by omega
 clear h BB;go_enter Tryz.func30,Tryz.ntmps30
 go_wp2_with fail
 refine (ig _ w.heap.size _ n _ _ st.cur (by omega)).mono ?_;rintro e Ba ⟨a,b,X1,Y1,E1,X2,Y2,E2,rfl,xS,p_⟩;replace st:=st.call xS p_;have FN:=p_.size;replace R:=R.aV p_ nR;replace Q:=Q.aV p_ nQ;clear xS p_;have zq:=Q.lt;have C:=aH.new Ba #[.int .i64 a,.int .i64 b] 25;have zlC:=st.size;have zgC:=st.le;replace st:=st.alloc (.cells #[.int .i64 a,.int .i64 b] 25);replace R:=R.alloc (.cells #[.int .i64 a,.int .i64 b] 25);replace Q:=Q.alloc (.cells #[.int .i64 a,.int .i64 b] 25);have F:=aH.new (Ba.alloc (.cells #[.int .i64 a,.int .i64 b] 25)) #[.int .i64 X1,.int .i64 Y1,.int .i64 E1] 27;have zlF:=st.size;have zgF:=st.le;replace st:=st.alloc (.cells #[.int .i64 X1,.int .i64 Y1,.int .i64 E1] 27);replace R:=R.alloc (.cells #[.int .i64 X1,.int .i64 Y1,.int .i64 E1] 27);replace Q:=Q.alloc (.cells #[.int .i64 X1,.int .i64 Y1,.int .i64 E1] 27);replace C:=C.alloc (.cells #[.int .i64 X1,.int .i64 Y1,.int .i64 E1] 27);rw [xM] at F;replace st:=st.alloc (.cells #[.int .i64 X2,.int .i64 Y2,.int .i64 E2] 27);replace R:=R.alloc (.cells #[.int .i64 X2,.int .i64 Y2,.int .i64 E2] 27);replace Q:=Q.alloc (.cells #[.int .i64 X2,.int .i64 Y2,.int .i64 E2] 27);replace C:=C.alloc (.cells #[.int .i64 X2,.int .i64 Y2,.int .i64 E2] 27);replace F:=F.alloc (.cells #[.int .i64 X2,.int .i64 Y2,.int .i64 E2] 27)
 go_upto_region 3 with fail
 generalize Ba.heap.size=G at *
 have TW:A7 w wc.heap.size w.heap.size _ n _ w.heap.size (w.heap.size+1) [(G,25,#[.int .i64 a,.int .i64 b]),(G+1,27,#[.int .i64 X1,.int .i64 Y1,.int .i64 E1])] 25 27 _ _ _:=⟨⟨st.cur,st.gr⟩,fun x hx=>(by rcases List.mem_cons.1 hx with rfl | hx;exact C;rcases List.mem_cons.1 hx with rfl | hx;exact F;cases hx),R,Q,⟨xP _,by omega,by omega,by omega,by omega⟩,fun x hx=>(by rcases List.mem_cons.1 hx with rfl | hx;(show w.heap.size+1<G;omega);rcases List.mem_cons.1 hx with rfl | hx;(show w.heap.size+1<G+1;omega);cases hx)⟩
 clear st R Q C F;refine Rg.fP (fun l W=>A7 w wc.heap.size w.heap.size (.slice A n cap) n (0+120) w.heap.size (w.heap.size+1) [(G,25,#[.int .i64 a,.int .i64 b]),(G+1,27,#[.int .i64 X1,.int .i64 Y1,.int .i64 E1])] 25 27 (bif l 2 then #[.int .i64 a,.int .i64 b] else #[.int .i64 0,.int .i64 0]) (bif l 3 then #[.int .i64 X1,.int .i64 Y1,.int .i64 E1] else #[.int .i64 0,.int .i64 0,.int .i64 0]) W) (fun _ _ _=>True) (fun _ _=>True) [2,3] [.agg #[.int .i64 a,.int .i64 b],.agg #[.int .i64 X1,.int .i64 Y1,.int .i64 E1],undef,undef] (by kernel_rfl) (by kernel_rfl) (by decide) (fun l l2 W h q=>by rw [←h 2 (by decide),←h 3 (by decide)];exact q) (fun _ _ _ _ _ _=>trivial) TW.drew ⟨?_,?_,?_,?_,trivial⟩ ?_
 ·unfold Rg.aU
  intro zZ w_ l_ j_ s_ xm xo yB xn xS hr;refine ⟨rfl,?_⟩;rw [if_neg (by decide)];have e5:zZ.tmps[5]?=some (.pointer (some ⟨G,0,none⟩)):=hr 5 (by decide);have xj:aH w_ G 25 #[.int .i64 a,.int .i64 b]:=s_.hV (G,25,#[.int .i64 a,.int .i64 b]) (by simp);have ⟨k0,k1,_,_,_⟩:=xj.box
  (first | (go_simp;done) | (go_simp;exact Rg.wr (by omega) (by omega)) | (go_simp;omega) | (go_simp;rfl) | (go_simp;exact ⟨rfl,rfl⟩))
 ·unfold Rg.aU
  intro zZ w_ l_ j_ s_ xm xo yB xn xS hr;refine ⟨rfl,?_⟩;rw [if_neg (by decide)];have e6:zZ.tmps[6]?=some (.pointer (some ⟨G+1,0,none⟩)):=hr 6 (by decide);have xj:aH w_ (G+1) 27 #[.int .i64 X1,.int .i64 Y1,.int .i64 E1]:=s_.hV (G+1,27,#[.int .i64 X1,.int .i64 Y1,.int .i64 E1]) (by simp);have ⟨k0,k1,k2⟩:=xj.aK
  (first | (go_simp;done) | (go_simp;exact Rg.wr (by omega) (by omega)) | (go_simp;omega) | (go_simp;rfl) | (go_simp;exact ⟨rfl,rfl⟩))
 ·unfold Rg.aU
  intro zZ w_ l_ j_ s_ xm xo yB xn xS hr;have e2:zZ.tmps[2]?=some (.pointer (some ⟨w.heap.size,0,none⟩)):=hr 2 (by decide);have e17:zZ.tmps[17]?=some (.agg #[.int .i64 a,.int .i64 b]):=hr 17 (by decide);refine ⟨rfl,?_⟩;rw [if_pos (by decide)];have q_:=s_;simp only [xo,cond_false] at q_;have xR:=And.intro (q_.jj (.int .i64 a) (.int .i64 b)) (And.intro True.intro True.intro)
  skip
  have ⟨Aj,Ak,Al,Am,_⟩:=q_.R.box;unfold Oper.wp
  go_simp
  all_goals first | exact xR | exact xR.1 | exact ⟨undef,xR⟩ | exact ⟨_,rfl,xR⟩
 ·unfold Rg.aU
  intro zZ w_ l_ j_ s_ xm xo yB xn xS hr;have e3:zZ.tmps[3]?=some (.pointer (some ⟨w.heap.size+1,0,none⟩)):=hr 3 (by decide);have e18:zZ.tmps[18]?=some (.agg #[.int .i64 X1,.int .i64 Y1,.int .i64 E1]):=hr 18 (by decide);refine ⟨rfl,?_⟩;rw [if_pos (by decide)];have q_:=s_;simp only [xo,cond_false] at q_;have xR:=And.intro (q_.ir (.int .i64 X1) (.int .i64 Y1) (.int .i64 E1)) (And.intro True.intro True.intro);have ⟨Aj,Ak,C4,Al,Am,CE⟩:=q_.Q.bg;unfold Oper.wp
  go_simp
  all_goals first | exact xR | exact xR.1 | exact ⟨undef,xR⟩ | exact ⟨_,rfl,xR⟩
 intro vals wz s_ hF hv;simp only [Rg.ay,Rg.fill,Act.put,Nat.reduceAdd];clear hv hF;simp only [cond_true] at s_;obtain ⟨rd,-,R,Q,-,-⟩:=s_;have B:=rd.below zw;clear rd;have ⟨Ar,As,t_,xQ,At⟩:=R.box;have ⟨CN,CO,CP,AH,AJ,AK⟩:=Q.bg;have CQ:=Q.lt;go_wp2;exact bodyPost_ret (v:=.tuple #[.agg #[.int .i64 a,.int .i64 b],.agg #[.int .i64 X1,.int .i64 Y1,.int .i64 E1]]) (by simp [results,Tryz.results30,go_sem, *]) rfl (⟨a,b,X1,Y1,E1,rfl,B⟩)
theorem law_Pairings (v u:Value) (n m:Nat) (w:World) (hv:cW w w.heap.size v n) (hu:cW w w.heap.size u m) :
  Calls Tryz.prog 4 #[v,u] w fun e w'=>e=.returned (.bool true)∧Below w.heap.size w w':=
 iq io ge v u n m w hv hu
end
section
open Go.ChangeShapes Go.WideShapes Go.ChangeAt Go.RowKit Go.Joins Go.Deep
theorem own:ownKnob Tryz.prog.godebug=none:=by kernel_rfl
theorem laidOut:laidOutB Tryz.prog=true:=by kernel_rfl
section
variable {H:Type} {enc:TypeId × Value→H} {P:Program} {w:World} {base:Nat} {spare:Nat→Bool} {held:Bool}
theorem gD (hl:laidOutB P=true):∀ (ts:List TypeId) (hts:∀ t ∈ ts,P.readableRec t=true∧t<P.types.size) {W W':World} {vs:List Value} {ds:List (DataW H)} {ps:List MemPlace}
  (_:DataW.TrodAll enc P W 0 (fun _=>true) true ts vs ds ps) (_:Below W.heap.size W W') (_:∀ x ∈ ps,x.block<W.heap.size),DataW.TrodAll enc P W' 0 (fun b=>decide (b<W.heap.size)) true ts vs ds ps
 | [],_,_,_,_,_,_,h,_,_=>by
  obtain ⟨rfl,rfl,rfl⟩:=trodAll_nil h;exact trodAll_mk0
 | t :: ts,hts,_,_,_,_,_,h,hb,hlt=>by
  obtain ⟨v,vs',d,ds',p,q,rfl,rfl,rfl,h1,h2⟩:=trodAll_cons h;refine ⟨p,q,Below.trod hl (hts t List.mem_cons_self).1 (hts t List.mem_cons_self).2 h1 hb fun x hx=>hlt x (List.mem_append_left _ hx),?_,rfl⟩
  exact gD hl ts (fun t' ht'=>hts t' (List.mem_cons_of_mem _ ht')) h2 hb fun x hx=>hlt x (List.mem_append_right _ hx)
theorem law_post {f:Func} {s:ChangeSpec} {W W':World} {args:Array Value} {ds:List (DataW H)} {before:List MemPlace} {tb:TypeId}
  (hl:laidOutB P=true) (hts:∀ t ∈ f.params.toList,P.readableRec t=true∧t<P.types.size)
  (hvars:s.vars=[]) (hf:s.fn H ds={ results:=[.lit (.bool true)],args:=ds }) (hrt:f.resultTypes=#[tb]) (Ii:P.underlying tb=some .bool)
  (hW:DataW.Whole enc P f.params.toList s.vars false W args.toList ds [] before) (hb:Below W.heap.size W W') :
  s.post enc P f false true false false W args (.bool true) W':=by
 have hlt:∀ p ∈ before,p.block<W.heap.size:=fun p hp=>hW.lt p hp
 obtain ⟨p,q,hA,hV,hpq,hz,hn⟩:=id hW;rw [hvars] at hV;obtain ⟨_,rfl⟩:=trodVars_none hV
 have hbp:before=p:=by simpa using hpq
 subst hbp
 have e1:s.fn H (ds ++ [])={ results:=[.lit (.bool true)],args:=ds }:=by rw [List.append_nil];exact hf
 refine ⟨ds,[],before,[],before,[],hW,?_,?_,?_,World.keptBut_mono (fun x hx=>⟨hx,Or.inr (Or.inl hx)⟩) (hb.frame (· ∈ before)),fun h=>by cases h⟩
 ·rw [e1,hrt]
  exact trodAll_mk1 (shut_bool Ii true)
 ·rw [e1]
  exact gD hl _ hts hA hb hlt
 rw [e1,hvars];exact rfl
end
theorem open_bytes {H:Type} {enc:TypeId × Value→H} {P:Program} {w:World} {base b0:Nat} {held:Bool} {r:Reach} {t te:TypeId} {v:Value} {d:DataW H} {ps:List MemPlace}
  (ht:P.underlying t=some (.slice te)) (he:P.underlying te=some (.int .u8)) (hc:P.cellsOf te=1) (hv:Value.okWide P w r b0 t v) (h:DataW.Trod enc P w base (fun _=>true) held t v d ps) :
  ∃ n:Nat,cW w w.heap.size v n:=by
 obtain ⟨a1,len,cap,rfl⟩:=okWide_slice ht hv;obtain ⟨fuel,hf⟩:=h
 rcases open_ints ht he hc hf with ⟨hcs,hx⟩ | ⟨a,len',cap',zs,hcs,_,hl,hm,hz,hx,hcell,hwz⟩
 ·simp [Value.cells] at hcs
  obtain ⟨rfl,rfl,rfl⟩:=hcs;exact ⟨0,none,0,rfl,by omega,fun j hj=>absurd hj (by omega)⟩
 simp [Value.cells] at hcs
 obtain ⟨rfl,rfl,rfl⟩:=hcs;simp only [if_true] at hz;refine ⟨len,some a,cap,rfl,by unfold maxLen at hm;omega,fun j hj=>?_⟩;obtain ⟨ab,ao,spot⟩:=a
 have hspot:spot=none:=by simpa [Addr.add] using World.cell?_spot (hcell 0 (by omega))
 subst hspot;have hcj:=hcell j (by omega);rw [Addr.add_lit] at hcj
 have hb:0≤zs.getD j 0∧zs.getD j 0≤255:=by
  have:=range_u8 hwz j;simp only [List.getD_eq_getElem?_getD] at this ⊢;omega
 exact ⟨ab,ao,zs.getD j 0,rfl,World.block_lt_of_cell? w _ hcj,hcj,hb.1,hb.2⟩
end
end Go.Proofs.YtggekfbfechonaaGreat
