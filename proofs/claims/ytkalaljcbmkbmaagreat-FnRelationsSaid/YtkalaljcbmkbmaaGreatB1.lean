/-
  Joined texts: contracts and plain lemmas.
-/
import Derived.Lib.Hide
import Derived.Tactics
import Derived.Below
import Derived.Test.YtkalaljcbmkbmaaGreatProg
import Derived.WalkKit
import Derived.KernelRfl
import Derived.Deep.QuietTactic
import Derived.BigQuiet
import Derived.Deep.RegionHeld3
import Derived.Laws.OwnMore
import Derived.Maps.AppendAt
import Derived.OwnWalk
import Derived.RegionTactic
import Derived.Deep.DeepCutAuto
import Derived.Deep.RegionWith
import Derived.Outline
import Derived.Lib.SliceRun
import Derived.Shelf.Abstract
set_option linter.unusedSimpArgs false
set_option linter.unusedVariables false
set_option maxRecDepth 100000
set_option maxHeartbeats 8000000
namespace Go.Proofs.YtkalaljcbmkbmaaGreat
open Tryz
section
instance : Coe Int Value := ⟨fun n => .int .i64 n⟩
instance : Coe Nat Value := ⟨fun n => .int .i64 n⟩
instance : Coe Bool Value := ⟨fun b => .bool b⟩
def Yd (rs:Array ResultVar) (tm:Array Value):Sem Value:=do
 let vs ←rs.mapM fun
  | .tmp t=>pure (tm.getD t undef)
  | .cell a t=>do loadVar t (←asAddr (tm.getD a undef))
 pure (if h:vs.size=1 then vs[0] else .tuple vs)
theorem D_ {P:Program} {fn:Func} {R:Ending→World→Prop} {a:Act} {w:World} {v:Value} {rs:Array ResultVar} (hs:fn.results=rs) (hR:R (.returned v) w) (hr:(Yd rs a.tmps).run P w=.ok v w:=by first | (simp [Yd,go_sem, *];done) | (simp [Yd,go_sem, *];first | rfl | (and_intros <;> rfl))) (hd:a.defers=[]:=by rfl):bodyPost P fn R .ret a w:=⟨hd,v,by subst hs;exact hr,hR⟩
theorem p_ {P:Program} {f:FuncId} {args:Array Value} {w:World} {x:Ending} {R:Ending→World→Prop} (h:Calls P f args w fun e w'=>e=x∧RowKit.Below w.heap.size w w') (k:∀ w',RowKit.Below w.heap.size w w'→R x w'):Calls P f args w R:=h.mono fun _ _ ⟨e,hb⟩=>e ▸ k _ hb
theorem Id {P:Program} {f:FuncId} {args:Array Value} {w:World} {x:Ending} {R:Ending→World→Prop} (h:Calls P f args w fun e w'=>e=x∧w=w') (k:R x w):Calls P f args w R:=h.mono fun _ _ ⟨e,hb⟩=>e ▸ hb ▸ k
instance {a w w':World}:HAdd (PLift (RowKit.Below a.heap.size a w)) (PLift (RowKit.Below w.heap.size w w')) (PLift (RowKit.Below a.heap.size a w')):=⟨fun x h=>⟨x.down.trans (h.down.mono x.down.size)⟩⟩
abbrev KK (A H B:Prop):=HAdd (PLift A) (PLift H) (PLift B)
theorem JH {A H B:Prop} [KK A H B] (h:H) (a:A):B:=(PLift.up a+PLift.up h).down
theorem Im {H A0 B0 A1 B1:Prop} [KK A0 H B0] [KK A1 H B1] (h:H) (a0:A0) (a1:A1):B0∧B1:=⟨JH h a0,JH h a1⟩
theorem I7 {H A0 B0 A1 B1 A2 B2:Prop} [KK A0 H B0] [KK A1 H B1] [KK A2 H B2] (h:H) (a0:A0) (a1:A1) (a2:A2):B0∧B1∧B2:=⟨JH h a0,JH h a1,JH h a2⟩
theorem Ip {H A0 B0 A1 B1 A2 B2 A3 B3:Prop} [KK A0 H B0] [KK A1 H B1] [KK A2 H B2] [KK A3 H B3] (h:H) (a0:A0) (a1:A1) (a2:A2) (a3:A3):B0∧B1∧B2∧B3:=⟨JH h a0,JH h a1,JH h a2,JH h a3⟩
theorem KU {H A0 B0 A1 B1 A2 B2 A3 B3 A4 B4:Prop} [KK A0 H B0] [KK A1 H B1] [KK A2 H B2] [KK A3 H B3] [KK A4 H B4] (h:H) (a0:A0) (a1:A1) (a2:A2) (a3:A3) (a4:A4):B0∧B1∧B2∧B3∧B4:=⟨JH h a0,JH h a1,JH h a2,JH h a3,JH h a4⟩
theorem RH {H A0 B0 A1 B1 A2 B2 A3 B3 A4 B4 A5 B5:Prop} [KK A0 H B0] [KK A1 H B1] [KK A2 H B2] [KK A3 H B3] [KK A4 H B4] [KK A5 H B5] (h:H) (a0:A0) (a1:A1) (a2:A2) (a3:A3) (a4:A4) (a5:A5):B0∧B1∧B2∧B3∧B4∧B5:=⟨JH h a0,JH h a1,JH h a2,JH h a3,JH h a4,JH h a5⟩
theorem YO {H A0 B0 A1 B1 A2 B2 A3 B3 A4 B4 A5 B5 A6 B6:Prop} [KK A0 H B0] [KK A1 H B1] [KK A2 H B2] [KK A3 H B3] [KK A4 H B4] [KK A5 H B5] [KK A6 H B6] (h:H) (a0:A0) (a1:A1) (a2:A2) (a3:A3) (a4:A4) (a5:A5) (a6:A6):B0∧B1∧B2∧B3∧B4∧B5∧B6:=⟨JH h a0,JH h a1,JH h a2,JH h a3,JH h a4,JH h a5,JH h a6⟩
theorem kp8 {H A0 B0 A1 B1 A2 B2 A3 B3 A4 B4 A5 B5 A6 B6 A7 B7:Prop} [KK A0 H B0] [KK A1 H B1] [KK A2 H B2] [KK A3 H B3] [KK A4 H B4] [KK A5 H B5] [KK A6 H B6] [KK A7 H B7] (h:H) (a0:A0) (a1:A1) (a2:A2) (a3:A3) (a4:A4) (a5:A5) (a6:A6) (a7:A7):B0∧B1∧B2∧B3∧B4∧B5∧B6∧B7:=⟨JH h a0,JH h a1,JH h a2,JH h a3,JH h a4,JH h a5,JH h a6,JH h a7⟩
theorem kp9 {H A0 B0 A1 B1 A2 B2 A3 B3 A4 B4 A5 B5 A6 B6 A7 B7 A8 B8:Prop} [KK A0 H B0] [KK A1 H B1] [KK A2 H B2] [KK A3 H B3] [KK A4 H B4] [KK A5 H B5] [KK A6 H B6] [KK A7 H B7] [KK A8 H B8] (h:H) (a0:A0) (a1:A1) (a2:A2) (a3:A3) (a4:A4) (a5:A5) (a6:A6) (a7:A7) (a8:A8):B0∧B1∧B2∧B3∧B4∧B5∧B6∧B7∧B8:=⟨JH h a0,JH h a1,JH h a2,JH h a3,JH h a4,JH h a5,JH h a6,JH h a7,JH h a8⟩
theorem kp10 {H A0 B0 A1 B1 A2 B2 A3 B3 A4 B4 A5 B5 A6 B6 A7 B7 A8 B8 A9 B9:Prop} [KK A0 H B0] [KK A1 H B1] [KK A2 H B2] [KK A3 H B3] [KK A4 H B4] [KK A5 H B5] [KK A6 H B6] [KK A7 H B7] [KK A8 H B8] [KK A9 H B9] (h:H) (a0:A0) (a1:A1) (a2:A2) (a3:A3) (a4:A4) (a5:A5) (a6:A6) (a7:A7) (a8:A8) (a9:A9):B0∧B1∧B2∧B3∧B4∧B5∧B6∧B7∧B8∧B9:=⟨JH h a0,JH h a1,JH h a2,JH h a3,JH h a4,JH h a5,JH h a6,JH h a7,JH h a8,JH h a9⟩
theorem ω {p:Prop} (h:p:=by (omega)):p:=h
theorem δ {p:Prop} (h:p:=by (decide)):p:=h
theorem ψ {p:Prop} (h:p:=by (assumption)):p:=h
theorem κ {p:Prop} (h:p:=by (kernel_rfl)):p:=h
theorem σ {p:Prop} (h:p:=by (simp)):p:=h
theorem γ {p:Prop} (h:p:=by (go_simp)):p:=h
theorem τ {p:Prop} (h:p:=by (go_simp;exact ⟨rfl,rfl⟩)):p:=h
theorem ν {p:Prop} (h:p:=by (first | rfl | omega | (refine congrArg _ ?_;omega) | (simp;omega))):p:=h
theorem φ {p:Prop} (h:p:=by (grind)):p:=h
theorem ξ {p:Prop} (h:p:=by (intro h1;first | omega | (rcases hs with h | h <;> omega))):p:=h
instance:CoeOut World Nat:=⟨fun w=>w.heap.size⟩
abbrev cB (f:FuncId) (a:Array Value) (w:World) (v:Value):Prop:=Calls Tryz.prog f a w fun e w'=>e=.returned v∧RowKit.Below w.heap.size w w'
abbrev cP (f:FuncId) (a:Array Value) (w:World) (v:Value):Prop:=Calls Tryz.prog f a w fun e w'=>e=.returned v∧w=w'
theorem IU {p : Prop} (h : p) : RowKit.Hid p := Lib.hid h
theorem IV (w : World) (o : Obj) : (w.alloc o).heap.size = w.heap.size + 1 := World.size_alloc w o
theorem IW {B : Nat} {a w : World} (h : RowKit.Below B a w) {p : Addr} (hp : B ≤ p.block) (u : Value) : RowKit.Below B a (w.setCell p u) := RowKit.Below.setCell h hp u
theorem IX (B : Nat) (w : World) : RowKit.Below B w w := RowKit.Below.refl B w
theorem IY (n : Nat) : n ≤ n := Nat.le_refl n
theorem Ml {B : Nat} {a w : World} (h : RowKit.Below B a w) {k : Nat} {x y : Value} (hk : B ≤ k := by omega) : RowKit.Below B a ((w.setCell ⟨k, 0, none⟩ x).setCell ⟨k, 1, none⟩ y) := RowKit.Below.setCell (RowKit.Below.setCell h hk _) hk _
theorem JW {B : Nat} {a w : World} (h : RowKit.Below B a w) {k : Nat} {x y z : Value} (hk : B ≤ k := by omega) : RowKit.Below B a (((w.setCell ⟨k, 0, none⟩ x).setCell ⟨k, 1, none⟩ y).setCell ⟨k, 2, none⟩ z) := RowKit.Below.setCell (RowKit.Below.setCell (RowKit.Below.setCell h hk _) hk _) hk _
theorem Jk {B : Nat} {a w : World} (h : RowKit.Below B a w) {k : Nat} {x y z u : Value} (hk : B ≤ k := by omega) : RowKit.Below B a ((((w.setCell ⟨k, 0, none⟩ x).setCell ⟨k, 1, none⟩ y).setCell ⟨k, 2, none⟩ z).setCell ⟨k, 3, none⟩ u) := RowKit.Below.setCell (RowKit.Below.setCell (RowKit.Below.setCell (RowKit.Below.setCell h hk _) hk _) hk _) hk _
theorem j_ {a b c : World} (h : RowKit.Below a.heap.size a b) (k : RowKit.Below b.heap.size b c) : RowKit.Below a.heap.size a c := h.trans (k.mono h.size)
namespace M
def pick (ok:Bool) (x:Int):Int:=if ok then x else 0
theorem jE (x:Int):pick true x=x:=rfl
theorem lQ (x:Int):pick false x=0:=rfl
def ins (n lo hi:Int):Bool:=decide (lo<=n/\n<=hi)
theorem bT {n lo hi:Int}:ins n lo hi=true ↔ lo<=n/\n<=hi:=by simp [ins]
theorem jj {n lo hi:Int} (h:ins n lo hi=true):lo<=n/\n<=hi:=bT.1 h
theorem aH {x y m n:Int} (h1:-m<=x:=by omega) (h2:x<=m:=by omega) (h3:-n<=y:=by omega) (h4:y<=n:=by omega):-(m*n)<=x*y/\x*y<=m*n:=by
 have a1:0<=(m - x)*(n - y):=Int.mul_nonneg ω ω;have a2:0<=(m+x)*(n+y):=Int.mul_nonneg ω ω;have a3:0<=(m - x)*(n+y):=Int.mul_nonneg ω ω;have a4:0<=(m+x)*(n - y):=Int.mul_nonneg ω ω;simp only [Int.sub_mul,Int.mul_sub,Int.add_mul,Int.mul_add] at a1 a2 a3 a4
 constructor <;> omega
theorem lM {x y m n:Int} (h1:0<=x) (h2:x<=m) (h3:0<=y) (h4:y<=n):0<=x*y/\x*y<=m*n:=
 ⟨Int.mul_nonneg h1 h3,(aH (m:=m) (n:=n) ω h2 ω h4).2⟩
def ia (n:Int):Prop:=2<=n/\∀ d:Int,2<=d->d*d<=n->¬ n % d=0
open Classical in
noncomputable def prime (n:Int):Bool:=decide (ia n)
theorem lS {n:Int}:prime n=true ↔ ia n:=by simp [prime]
theorem yf {n:Int}:prime n=false ↔ ¬ ia n:=by simp [prime]
theorem IM {k m:Int} (hm:0<=m) (h:k*k<m*m):k<m:=by
 rcases Int.lt_or_le k m with q | q
 ·exact q
 have:m*m<=k*k:=Int.mul_le_mul q q ω ω;omega
def zL (n r:Int):Prop:=0<=r/\r*r<=n/\n<(r+1)*(r+1)
theorem zL.uniq {n r s:Int} (h:zL n r) (k:zL n s):r=s:=by
 obtain ⟨a,b,c⟩:=h;obtain ⟨d,e,f⟩:=k
 rcases Int.lt_trichotomy r s with q | q | q
 ·have:(r+1)*(r+1)<=s*s:=Int.mul_le_mul ω ω ω ω
  omega
 ·exact q
 have:(s+1)*(s+1)<=r*r:=Int.mul_le_mul ω ω ω ω;omega
theorem xP (n:Nat):∃ r:Nat,r*r<=n/\n<(r+1)*(r+1):=by
 induction n with
 | zero=>exact ⟨0,ω,ω⟩
 | succ n ih=>
 obtain ⟨r,h1,h2⟩:=ih
 rcases Nat.lt_or_ge (n+1) ((r+1)*(r+1)) with q | q
 ·exact ⟨r,ω,q⟩
 refine ⟨r+1,q,?_⟩
 have:(r+1+1)*(r+1+1)=(r+1)*(r+1)+2*r+3:=by simp only [Nat.add_mul,Nat.mul_add];omega
 omega
open Classical in
noncomputable def root (n:Int):Int:=if h:0<=n then ((xP n.toNat).choose:Int) else 0
theorem gv {n:Int} (h:0<=n):zL n (root n):=by
 obtain ⟨a,b⟩:=(xP n.toNat).choose_spec;unfold root;rw [dif_pos h];refine ⟨ω,?_,?_⟩
 ·have:=Int.ofNat_le.2 a;push_cast at this;omega
 have:=Int.ofNat_lt.2 b;push_cast at this;omega
theorem me {n r:Int} (h:zL n r):r=root n:=by
 have:0<=r*r:=Int.mul_nonneg h.1 h.1;exact h.uniq (gv (by have:=h.2.1;omega))
def val (a b x:Int):Int:=x*x*x+a*x+b
def aO (a b:Int):Int:=4*a*a*a+27*b*b
def ay (a b:Int):Bool:=ins a (-1000) 1000 && ins b (-10000) 10000
def good (a b:Int):Bool:=ay a b && (aO a b != 0)
theorem aW {a b:Int} (h:ay a b=true):-1000<=a/\a<=1000/\-10000<=b/\b<=10000:=by
 simp only [ay,Bool.and_eq_true,bT] at h;omega
theorem aY {a b:Int} (h:good a b=true):ay a b=true:=by
 simp only [good,Bool.and_eq_true] at h;exact h.1
theorem yG {a b:Int} (h:good a b=true):aO a b≠0:=by
 simp only [good,Bool.and_eq_true,bne_iff_ne] at h;exact h.2
def upto (lo:Int) (k:Nat):List Int:=(List.range k).map fun i:Nat=>lo+(i:Int)
theorem qK (lo:Int) (k:Nat):upto lo (k+1)=upto lo k ++ [lo+(k:Int)]:=by
 simp [upto,List.range_succ]
def sel (p:Int->Bool) (lo:Int) (k:Nat):List Int:=(upto lo k).filter p
theorem EU {p:Int->Bool} {lo:Int} {k:Nat} (h:p (lo+k)=true):sel p lo (k+1)=sel p lo k ++ [lo+(k:Int)]:=by
 simp [sel,qK,h]
theorem CR {p:Int->Bool} {lo:Int} {k:Nat} (h:p (lo+k)=false):sel p lo (k+1)=sel p lo k:=by
 simp [sel,qK,h]
theorem rB {a p:Int} (hp:1<=p):0<=a % p/\a % p<p:=⟨Int.emod_nonneg _ ω,Int.emod_lt_of_pos _ ω⟩
def rhs (a b p x:Int):Int:=val a b x % p
def gcd (a b:Int):Int:=Int.gcd a b
theorem nu (a b:Int):Int.gcd b (a.tmod b)=Int.gcd a b:=by
 rw [Int.gcd_comm a b];simp only [Int.gcd,Int.natAbs_tmod];exact (Nat.gcd_rec b.natAbs a.natAbs ▸ Nat.gcd_comm _ _)
end M
end
section
open M
namespace M
inductive r_ where
 | O:r_
 | fin (x y:Rat):r_
namespace r_
def On (a b:Rat):r_->Prop
 | O=>True
 | .fin x y=>y*y=x*x*x+a*x+b
def neg:r_->r_
 | O=>O
 | .fin x y=>.fin x (-y)
def Slp (a x1 y1 x2 y2 l:Rat):Prop:=y1 - y2=l*(x1 - x2)/\l*(y1+y2)=x1*x1+x1*x2+x2*x2+a
def lam (a x1 y1 x2 y2:Rat):Rat:=if x1=x2 then (3*x1*x1+a) / (2*y1) else (y1 - y2) / (x1 - x2)
def thd (x1 y1 x2 l:Rat):r_:=.fin (l*l - x1 - x2) (l*(x1 - (l*l - x1 - x2)) - y1)
def add (a:Rat):r_->r_->r_
 | O,Q=>Q
 | .fin x y,O=>.fin x y
 | .fin x1 y1,.fin x2 y2=>if x1=x2/\y1=-y2 then O else thd x1 y1 x2 (lam a x1 y1 x2 y2)
theorem HE (a:Rat) (P:r_):add a O P=P:=rfl
theorem ij (a:Rat) (P:r_):add a P O=P:=by cases P <;> rfl
theorem gN {a b x1 y1 x2 y2:Rat} (h1:On a b (.fin x1 y1)) (h2:On a b (.fin x2 y2)) (h:¬ (x1=x2/\y1=-y2)):Slp a x1 y1 x2 y2 (lam a x1 y1 x2 y2):=by
 unfold On at h1 h2;unfold Slp lam
 split
 ·rename_i hx
  subst hx
  have h3:(y1 - y2)*(y1+y2)=0:=φ
  have h4:y1=y2:=by
   rcases Rat.mul_eq_zero.1 h3 with h4 | h4
   ·grind
   exact absurd ⟨rfl,φ⟩ h
  subst h4
  have h5:y1≠0:=fun h0=>h ⟨rfl,φ⟩
  constructor
  ·grind
  grind
 rename_i hx
 have h5:x1 - x2≠0:=φ
 constructor
 ·grind
 grind
theorem xV {a b x1 y1 x2 y2 l:Rat} (hd:4*a*a*a+27*b*b≠0) (h1:On a b (.fin x1 y1)) (h:Slp a x1 y1 x2 y2 l):¬ (x1=x2/\y1=-y2):=by
 rintro ⟨rfl,hy⟩;unfold On at h1;obtain ⟨e1,e2⟩:=h
 have h0:y1=0:=φ
 have h00:y2=0:=φ
 subst h0 h00
 apply hd
 have e3:a=-3*x1*x1:=φ
 have e4:b=2*x1*x1*x1:=φ
 grind
theorem CY {a b x1 y1 x2 y2 l l':Rat} (hd:4*a*a*a+27*b*b≠0) (h1:On a b (.fin x1 y1)) (h:Slp a x1 y1 x2 y2 l) (h':Slp a x1 y1 x2 y2 l'):l=l':=by
 have hn:=xV hd h1 h;obtain ⟨e1,e2⟩:=h;obtain ⟨f1,f2⟩:=h'
 by_cases hx:x1=x2
 ·have hy:y1+y2≠0:=fun h0=>hn ⟨hx,φ⟩
  grind
 have:x1 - x2≠0:=φ
 grind
theorem dP {a b x1 y1 x2 y2 l:Rat} (hd:4*a*a*a+27*b*b≠0) (h1:On a b (.fin x1 y1)) (h2:On a b (.fin x2 y2)) (h:Slp a x1 y1 x2 y2 l):add a (.fin x1 y1) (.fin x2 y2)=thd x1 y1 x2 l:=by
 have hn:=xV hd h1 h;have hl:=CY hd h1 h (gN h1 h2 hn)
 show (if x1=x2/\y1=-y2 then O else thd x1 y1 x2 (lam a x1 y1 x2 y2))=_
 rw [if_neg hn,←hl]
theorem cV {a x1 y1 x2 y2:Rat} (h:x1=x2/\y1=-y2):add a (.fin x1 y1) (.fin x2 y2)=O:=if_pos h
theorem rm {a b x1 y1 x2 y2 l:Rat} (h1:On a b (.fin x1 y1)) (h:Slp a x1 y1 x2 y2 l):On a b (thd x1 y1 x2 l):=by
 unfold thd On at *;obtain ⟨e1,e2⟩:=h
 grind
theorem dM {a b:Rat} (hd:4*a*a*a+27*b*b≠0) {P Q:r_} (h1:On a b P) (h2:On a b Q):On a b (add a P Q):=by
 cases P with
 | O=>exact h2
 | fin x1 y1=>
 cases Q with
 | O=>exact h1
 | fin x2 y2=>
 by_cases hv:x1=x2/\y1=-y2
 ·rw [cV hv];trivial
 have:=gN h1 h2 hv;rw [dP hd h1 h2 this];exact rm h1 this
theorem cM {a b:Rat} {P:r_} (h:On a b P):On a b (neg P):=by
 cases P with
 | O=>trivial
 | fin x y=>unfold neg On at *;grind
theorem neg_neg (P:r_):neg (neg P)=P:=by
 cases P with
 | O=>rfl
 | fin x y=>unfold neg;simp
theorem Slp.symm {a x1 y1 x2 y2 l:Rat} (h:Slp a x1 y1 x2 y2 l):Slp a x2 y2 x1 y1 l:=by
 obtain ⟨e1,e2⟩:=h
 constructor <;> grind
theorem Ci {a x1 y1 x2 y2 l:Rat} (h:Slp a x1 y1 x2 y2 l):thd x1 y1 x2 l=thd x2 y2 x1 l:=by
 obtain ⟨e1,e2⟩:=h;unfold thd
 congr 1
 ·grind
 grind
theorem add_comm {a b:Rat} (hd:4*a*a*a+27*b*b≠0) {P Q:r_} (h1:On a b P) (h2:On a b Q):add a P Q=add a Q P:=by
 cases P with
 | O=>exact (ij a Q).symm
 | fin x1 y1=>
 cases Q with
 | O=>rfl
 | fin x2 y2=>
 by_cases hv:x1=x2/\y1=-y2
 ·rw [cV hv,cV]
  exact ⟨hv.1.symm,φ⟩
 have:=gN h1 h2 hv;rw [dP hd h1 h2 this,dP hd h2 h1 this.symm,Ci this]
theorem cL (a:Rat) (P:r_):add a (neg P) P=O:=by
 cases P with
 | O=>rfl
 | fin x y=>exact cV ⟨rfl,rfl⟩
theorem kS {a b:Rat} (hd:4*a*a*a+27*b*b≠0) {P Q:r_} (h1:On a b P) (h2:On a b Q):neg (add a P Q)=add a (neg P) (neg Q):=by
 cases P with
 | O=>rfl
 | fin x1 y1=>
 cases Q with
 | O=>rfl
 | fin x2 y2=>
 by_cases hv:x1=x2/\y1=-y2
 ·rw [cV hv]
  show O=add a (.fin x1 (-y1)) (.fin x2 (-y2))
  rw [cV];exact ⟨hv.1,φ⟩
 have h3:=gN h1 h2 hv
 have h4:Slp a x1 (-y1) x2 (-y2) (-lam a x1 y1 x2 y2):=by
  obtain ⟨e1,e2⟩:=h3
  constructor <;> grind
 rw [dP hd h1 h2 h3]
 show _=add a (.fin x1 (-y1)) (.fin x2 (-y2))
 rw [dP hd (cM h1) (cM h2) h4];unfold thd neg
 congr 1 <;> grind
theorem qU {a b:Rat} (hd:4*a*a*a+27*b*b≠0) {P Q:r_} (h1:On a b P) (h2:On a b Q):add a (neg P) (add a P Q)=Q:=by
 cases P with
 | O=>rfl
 | fin x1 y1=>
 cases Q with
 | O=>exact cL a _
 | fin x2 y2=>
 by_cases hv:x1=x2/\y1=-y2
 ·rw [cV hv]
  show r_.fin x1 (-y1)=r_.fin x2 y2
  rw [hv.1,hv.2]
  congr 1
  grind
 have h3:=gN h1 h2 hv;generalize lam a x1 y1 x2 y2=l at h3;rw [dP hd h1 h2 h3];have h5:=rm h1 h3
 have h4:Slp a x1 (-y1) (l*l - x1 - x2) (l*(x1 - (l*l - x1 - x2)) - y1) (-l):=by
  obtain ⟨e1,e2⟩:=h3;unfold On at *
  constructor
  ·grind
  grind
 show add a (.fin x1 (-y1)) (.fin _ _)=_
 rw [dP hd (cM h1) h5 h4];obtain ⟨e1,e2⟩:=h3;unfold thd
 congr 1 <;> grind
theorem zk {a x1 y1 x y x3 y3 l m:Rat} (hl:Slp a x1 y1 x y l) (hm:Slp a x y x3 y3 m) (hne:l≠m) :
  ∃ n r,Slp a (l*l - x1 - x) (l*(x1 - (l*l - x1 - x)) - y1) x3 y3 n/\Slp a x1 y1 (m*m - x - x3) (m*(x - (m*m - x - x3)) - y) r/\
   thd (l*l - x1 - x) (l*(x1 - (l*l - x1 - x)) - y1) x3 n=thd x1 y1 (m*m - x - x3) r:=by
 have hd:l - m≠0:=φ
 obtain ⟨w,hw⟩:∃ w,w*(l - m)=x3 - x1:=⟨(x3 - x1) / (l - m),φ⟩
 obtain ⟨e1,e2⟩:=hl;obtain ⟨f1,f2⟩:=hm
 have k1:2*y*(l - m)=(x3 - x)*(m*m - x1 - x - x3) - (x1 - x)*(l*l - x1 - x - x3):=φ
 have k2:2*y+(l+m)*(x3 - x)=w*(l*l - x1 - x - x3):=by
  have:(l - m)*(2*y+(l+m)*(x3 - x))=(l - m)*(w*(l*l - x1 - x - x3)):=φ
  grind
 have k3:2*y+(l+m)*(x1 - x)=w*(m*m - x1 - x - x3):=by
  have:(l - m)*(2*y+(l+m)*(x1 - x))=(l - m)*(w*(m*m - x1 - x - x3)):=φ
  grind
 refine ⟨-l - w,-m - w,⟨?_,?_⟩,⟨?_,?_⟩,?_⟩
 ·grind
 ·grind
 ·grind
 ·grind
 unfold thd
 congr 1
 ·grind
 grind
theorem add_assoc {a b:Rat} (hd:4*a*a*a+27*b*b≠0) {P Q R:r_} (h1:On a b P) (h2:On a b Q) (h3:On a b R):add a (add a P Q) R=add a P (add a Q R):=by
 cases P with
 | O=>rfl
 | fin x1 y1=>
 cases Q with
 | O=>rfl
 | fin x y=>
 cases R with
 | O=>rw [ij,ij]
 | fin x3 y3=>
 by_cases v1:x1=x/\y1=-y
 ·rw [cV v1]
  have:=qU hd h2 h3;rw [show r_.fin x1 y1=neg (.fin x y) by rw [v1.1,v1.2];rfl,this];rfl
 by_cases v2:x=x3/\y=-y3
 ·rw [cV v2,ij,add_comm hd (dM hd h1 h2) h3,add_comm hd h1 h2]
  have:=qU hd h2 h1;rw [show r_.fin x3 y3=neg (.fin x y) by rw [v2.1,v2.2];unfold neg;simp,this]
 have hl:=gN h1 h2 v1;have hm:=gN h2 h3 v2;generalize lam a x1 y1 x y=l at hl;generalize lam a x y x3 y3=m at hm;rw [dP hd h1 h2 hl,dP hd h2 h3 hm];have hS:=rm h1 hl;have hT:=rm h2 hm
 by_cases hlm:l=m
 ·subst hlm
  obtain ⟨e1,e2⟩:=id hl;obtain ⟨f1,f2⟩:=id hm
  have k:(x3 - x1)*(l*l - x1 - x - x3)=0:=φ
  rcases Rat.mul_eq_zero.1 k with k | k
  ·obtain rfl:x3=x1:=φ
   obtain rfl:y3=y1:=φ
   rw [←dP hd h1 h2 hl,←dP hd h2 h3 hm,add_comm hd (dM hd h1 h2) h1,add_comm hd h1 h2]
  show add a (.fin _ _) (.fin _ _)=add a (.fin _ _) (.fin _ _)
  rw [cV ⟨φ,φ⟩,cV ⟨φ,φ⟩]
 obtain ⟨n,r,e1,e2,e3⟩:=zk hl hm hlm
 show add a (.fin _ _) (.fin _ _)=add a (.fin _ _) (.fin _ _)
 rw [dP hd hS h3 e1,dP hd h1 hT e2,e3]
end r_
end M
namespace Wh
def val:List Int->Int
 | []=>0
 | x :: l=>x+10000*val l
def a_ (n:Nat):List Int:=if h:n=0 then [] else ((n % 10000:Nat):Int) :: a_ (n / 10000)
termination_by n
decreasing_by exact Nat.div_lt_self (Nat.pos_of_ne_zero h) δ
def lim (x:Int):Prop:=0<=x/\x<10000
def bK (l:List Int):Prop:=∀ x ∈ l,lim x
theorem dT:a_ 0=[]:=by rw [a_];rfl
theorem jO {n:Nat} (h:n≠0):a_ n=((n % 10000:Nat):Int) :: a_ (n / 10000):=by rw [a_,dif_neg h]
theorem bM (n:Nat):val (a_ n)=n:=by
 induction n using Nat.strongRecOn with
 | ind n ih=>
 by_cases h:n=0
 ·subst h;rw [dT];rfl
 rw [jO h]
 show ((n % 10000:Nat):Int)+10000*val (a_ (n / 10000))=n
 rw [ih _ (Nat.div_lt_self (Nat.pos_of_ne_zero h) δ)];omega
theorem aj (n:Nat):bK (a_ n):=by
 induction n using Nat.strongRecOn with
 | ind n ih=>
 by_cases h:n=0
 ·subst h;rw [dT];intro x hx;cases hx
 rw [jO h];intro x hx
 rcases List.mem_cons.1 hx with rfl | hx
 ·unfold lim;omega
 exact ih _ (Nat.div_lt_self (Nat.pos_of_ne_zero h) δ) x hx
theorem jN {n:Nat}:a_ n=[] ↔ n=0:=by
 constructor
 ·intro h
  by_cases h0:n=0
  ·exact h0
  rw [jO h0] at h;cases h
 rintro rfl;exact dT
theorem sf {x v:Nat} (hx:x<10000) (h:x≠0∨v≠0):a_ (x+10000*v)=(x:Int) :: a_ v:=by
 rw [jO ω,show (x+10000*v) % 10000=x by omega,show (x+10000*v) / 10000=v by omega]
def trim:List Int->List Int
 | []=>[]
 | x :: l=>match trim l with
  | []=>if x=0 then [] else [x]
  | y :: t=>x :: y :: t
theorem db:∀ {l:List Int},bK l->0<=val l
 | [],_=>Int.le_refl _
 | x :: l,h=>by
  have h1:=db (l:=l) fun y hy=>h y (List.mem_cons_of_mem _ hy)
  have h2:=(h x List.mem_cons_self).1
  show 0<=x+10000*val l
  omega
theorem mg:∀ {l:List Int},bK l->trim l=a_ (val l).toNat
 | [],_=>by show []=a_ (0:Int).toNat;rw [show (0:Int).toNat=0 from rfl,dT]
 | x :: l,h=>by
  have hl:bK l:=fun y hy=>h y (List.mem_cons_of_mem _ hy)
  have ih:=mg hl;have hx:=h x List.mem_cons_self;have hv:=db hl
  obtain ⟨v,hv'⟩:∃ v:Nat,val l=v:=⟨(val l).toNat,ω⟩
  obtain ⟨y,rfl⟩:∃ y:Nat,x=y:=⟨x.toNat,by have:=hx.1;omega⟩
  rw [hv',Int.toNat_natCast] at ih
  have hy:y<10000:=by have:=hx.2;omega
  show (match trim l with
   | []=>if (y:Int)=0 then [] else [(y:Int)]
   | z :: t=>(y:Int) :: z :: t)=a_ ((y:Int)+10000*val l).toNat
  rw [ih,hv',show ((y:Int)+10000*(v:Int)).toNat=y+10000*v by omega]
  by_cases h0:v=0
  ·subst h0
   rw [dT]
   by_cases hy0:y=0
   ·subst hy0
    rw [Nat.mul_zero,dT];rfl
   rw [sf hy (Or.inl hy0),dT,if_neg ω]
  rw [sf hy (Or.inr h0),jO h0]
theorem lh:∀ l:List Int,trim (l ++ [0])=trim l
 | []=>rfl
 | x :: l=>by
  show (match trim (l ++ [0]) with
   | []=>if x=0 then [] else [x]
   | z :: t=>x :: z :: t)=_
  rw [lh l];rfl
theorem qI:∀ (l:List Int) {x:Int},x≠0->trim (l ++ [x])=l ++ [x]
 | [],x,h=>by show (if x=0 then [] else [x])=_;rw [if_neg h];rfl
 | y :: l,x,h=>by
  show (match trim (l ++ [x]) with
   | []=>if y=0 then [] else [y]
   | z :: t=>y :: z :: t)=_
  rw [qI l h]
  cases l <;> rfl
theorem AZ (n:Nat):trim (a_ n)=a_ n:=by rw [mg (aj n),bM,Int.toNat_natCast]
theorem iT:∀ a b:List Int,val (a ++ b)=val a+10000 ^ a.length*val b
 | [],b=>by show val b=0+10000 ^ 0*val b;rw [Int.pow_zero];omega
 | x :: a,b=>by
  show x+10000*val (a ++ b)=x+10000*val a+10000 ^ (a.length+1)*val b
  rw [iT a b,Int.pow_succ]
  grind
theorem pow_pos (n:Nat):(0:Int)<10000 ^ n:=Int.pow_pos δ
theorem gT:∀ {l:List Int},bK l->val l<10000 ^ l.length
 | [],_=>by show (0:Int)<10000 ^ 0;rw [Int.pow_zero];decide
 | x :: l,h=>by
  have h1:=gT (l:=l) fun y hy=>h y (List.mem_cons_of_mem _ hy)
  have h2:=(h x List.mem_cons_self).2
  show x+10000*val l<10000 ^ (l.length+1)
  rw [Int.pow_succ];omega
theorem dH {a b:List Int} (h:bK a) (h':bK b):bK (a ++ b):=fun x hx=>by
 rcases List.mem_append.1 hx with q | q
 ·exact h x q
 exact h' x q
theorem gh {a:List Int} (h:bK a) (k:Nat):bK (a.take k):=fun x hx=>h x (List.mem_of_mem_take hx)
theorem lJ {a:List Int} (h:bK a) (k:Nat):bK (a.drop k):=fun x hx=>h x (List.mem_of_mem_drop hx)
theorem cR {l:List Int} {k:Nat} {x:Int} (hx:l[k]?=some x):val (l.take (k+1))=val (l.take k)+10000 ^ k*x:=by
 have hk:=(List.getElem?_eq_some_iff.1 hx).1;rw [List.take_add_one,hx,iT,List.length_take,Nat.min_eq_left (Nat.le_of_lt hk)]
 show _+_*(x+10000*0)=_
 grind
theorem pD {l:List Int} {k:Nat} {x:Int} (hx:l[k]?=some x):val (l.drop k)=x+10000*val (l.drop (k+1)):=by
 obtain ⟨h1,rfl⟩:=List.getElem?_eq_some_iff.1 hx;rw [List.drop_eq_getElem_cons h1];rfl
theorem dw {n k:Nat} (h:n<10000 ^ k):(a_ n).length<=k:=by
 induction k generalizing n with
 | zero=>rw [Nat.pow_zero] at h;rw [show n=0 by omega,dT];exact IY _
 | succ k ih=>
 by_cases h0:n=0
 ·subst h0;rw [dT];exact Nat.zero_le _
 rw [jO h0,List.length_cons]
 have:n / 10000<10000 ^ k:=by
  rw [Nat.pow_succ] at h;exact Nat.div_lt_of_lt_mul (by rwa [Nat.mul_comm])
 have:=ih this;omega
def nth (l:List Int) (i:Nat):Int:=(l[i]?).getD 0
theorem dZ {l:List Int} {i:Nat} {x:Int} (h:l[i]?=some x):nth l i=x:=by unfold nth;rw [h];rfl
theorem dY {l:List Int} {i:Nat} (h:l.length<=i):nth l i=0:=by unfold nth;rw [List.getElem?_eq_none h];rfl
theorem cN (l:List Int) (k:Nat):val (l.take (k+1))=val (l.take k)+10000 ^ k*nth l k:=by
 by_cases h:k<l.length
 ·have hx:l[k]?=some l[k]:=List.getElem?_eq_getElem h
  rw [cR hx,dZ hx]
 rw [dY ω,List.take_of_length_le ω,List.take_of_length_le ω]
 grind
theorem mX {l:List Int} (h:bK l) (i:Nat):lim (nth l i):=by
 unfold nth
 cases hx:l[i]? with
 | none=>exact ⟨Int.le_refl _,δ⟩
 | some x=>exact h x (List.mem_of_getElem? hx)
end Wh
end
section
open M Wh
namespace Wh
structure iC (a b:List Int) (s:Int) (i:Nat) (o:List Int) (c:Int):Prop where
 eq:val o+10000 ^ i*c=val (a.take i)+s*val (b.take i)
 len:o.length=i
 ls:bK o
 c1:s=1->0<=c/\c<=1
 c2:s=-1->-1<=c/\c<=0
theorem iC.start (a b:List Int) (s:Int):iC a b s 0 [] 0 where
 eq:=by simp [val]
 len:=rfl
 ls:=fun x hx=>by cases hx
 c1:=fun _=>ω
 c2:=fun _=>ω
theorem uM (o:List Int) (x:Int):val (o ++ [x])=val o+10000 ^ o.length*x:=by
 rw [iT]
 show _+_*(x+10000*0)=_
 grind
theorem iC.step {a b o:List Int} {s c:Int} {i:Nat} (h:iC a b s i o c) {x c':Int} (hx:lim x) (he:x+10000*c'=nth a i+s*nth b i+c) (h1:s=1->0<=c'/\c'<=1) (h2:s=-1->-1<=c'/\c'<=0):iC a b s (i+1) (o ++ [x]) c' where
 eq:=by
  rw [uM,h.len,cN,cN,Int.pow_succ];have:=h.eq
  grind
 len:=by rw [List.length_append,h.len];rfl
 ls:=dH h.ls fun y hy=>by rw [List.mem_singleton] at hy;subst hy;exact hx
 c1:=h1
 c2:=h2
theorem iC.rng {a b o:List Int} {s c:Int} {i:Nat} (h:iC a b s i o c) (hs:s=1∨s=-1) (ha:bK a) (hb:bK b):-10000<=nth a i+s*nth b i+c/\nth a i+s*nth b i+c<=19999/\(s=1->0<=nth a i+s*nth b i+c)/\(s=-1->nth a i+s*nth b i+c<=9999)/\-1<=c/\c<=1:=by
 have h1:=mX ha i;have h2:=mX hb i;unfold lim at h1 h2
 rcases hs with rfl | rfl
 ·have:=h.c1 rfl
  refine ⟨?_,?_,fun _=>?_,fun h=>absurd h δ,?_,?_⟩ <;> omega
 have:=h.c2 rfl;refine ⟨?_,?_,fun h=>absurd h δ,fun _=>?_,?_,?_⟩ <;> omega
theorem iC.all {a b o:List Int} {s c:Int} {i:Nat} (h:iC a b s i o c) (ha:a.length<=i) (hb:b.length<=i):val o+10000 ^ i*c=val a+s*val b:=by
 have:=h.eq
 rwa [List.take_of_length_le ha,List.take_of_length_le hb] at this
theorem iC.fin {a b o:List Int} {s c:Int} {i:Nat} (h:iC a b s i o c) (hs:s=1∨s=-1) (ha:a.length<=i) (hb:b.length<=i) (h0:0<=val a+s*val b) (h1:val a+s*val b<10000 ^ i):c=0/\val o=val a+s*val b:=by
 have e:=h.all ha hb;have o1:=db h.ls;have o2:=gT h.ls;rw [h.len] at o2;have hp:=pow_pos i
 have hc:-1<=c/\c<=1:=by
  rcases hs with rfl | rfl
  ·have:=h.c1 rfl;omega
  have:=h.c2 rfl;omega
 have:c=0:=by
  have hc':c=-1∨c=0∨c=1:=ω
  rcases hc' with rfl | rfl | rfl
  ·rw [show (10000:Int) ^ i*-1=-(10000 ^ i) by grind] at e;omega
  ·rfl
  rw [Int.mul_one] at e;omega
 subst this;refine ⟨rfl,?_⟩;rw [Int.mul_zero] at e;omega
theorem iC.carry {a b o:List Int} {s c:Int} {i:Nat} (h:iC a b s i o c) (hs:s=1∨s=-1) (ha:a.length<=i) (hb:b.length<=i) (h0:0<=val a+s*val b) (hc:c≠0):c=1:=by
 have e:=h.all ha hb;have o2:=gT h.ls;rw [h.len] at o2
 have hc':c=-1∨c=1:=by
  rcases hs with rfl | rfl
  ·have:=h.c1 rfl;omega
  have:=h.c2 rfl;omega
 rcases hc' with rfl | rfl
 ·rw [show (10000:Int) ^ i*-1=-(10000 ^ i) by grind] at e;omega
 rfl
theorem lR {m n:Nat} (h:m<=n):(10000:Int) ^ m<=10000 ^ n:=by
 obtain ⟨k,rfl⟩:=Nat.le.dest h;rw [Int.pow_add];have h1:=pow_pos m;have h2:=pow_pos k;have:=Int.mul_le_mul_of_nonneg_left (show (1:Int)<=10000 ^ k by omega) (Int.le_of_lt h1);omega
theorem sum_lt {a b:List Int} {s:Int} (hs:s=1∨s=-1) (ha:bK a) (hb:bK b) {n:Nat} (h1:a.length<=n) (h2:b.length<=n):val a+s*val b<10000 ^ (n+1):=by
 have a2:=gT ha;have b1:=db hb;have b2:=gT hb;have p1:=lR h1;have p2:=lR h2;have p:=pow_pos n;rw [Int.pow_succ]
 rcases hs with rfl | rfl <;> omega
structure MInv (o0 o:List Int) (x:Int) (b:List Int) (i k:Nat) (c:Int):Prop where
 len:o.length=o0.length
 eq:val (o.take k)+10000 ^ k*c=val (o0.take k)+10000 ^ i*(x*val (b.take (k - i)))
 rest:o.drop k=o0.drop k
 ls:bK (o.take k)
 c0:0<=c/\c<=9999
theorem MInv.start {o0:List Int} (h:bK o0) (x:Int) (b:List Int) (i:Nat):MInv o0 o0 x b i i 0 where
 len:=rfl
 eq:=by rw [Nat.sub_self];simp [val]
 rest:=rfl
 ls:=gh h i
 c0:=ω
theorem rD {x y:Int} (hx:lim x) (hy:lim y):0<=x*y/\x*y<=99980001:=by
 have h1:=Int.mul_nonneg hx.1 hy.1;have h2:x*y<=9999*y:=Int.mul_le_mul_of_nonneg_right (by have:=hx.2;omega) hy.1;have:=hy.2;omega
theorem MInv.step {o0 o b:List Int} {x c t:Int} {i k:Nat} (h:MInv o0 o x b i k c) (ho:bK o0) (hx:lim x) (hb:bK b) (hik:i<=k) (ht:o0[k]?=some t) {y:Int} (hy:y=t+c+x*nth b (k - i)):(0<=y/\y<=99999999)/\MInv o0 (o.set k (y % 10000)) x b i (k+1) (y / 10000):=by
 have hk:=(List.getElem?_eq_some_iff.1 ht).1;have htl:lim t:=ho t (List.mem_of_getElem? ht);have hm:=rD hx (mX hb (k - i));have hc:=h.c0;unfold lim at htl
 have Tr:0<=y/\y<=99999999:=ω
 have htk:(o.set k (y % 10000)).take k=o.take k:=by
  rw [List.take_set,List.set_eq_of_length_le (by rw [List.length_take];omega)]
 have hsk:(o.set k (y % 10000))[k]?=some (y % 10000):=by
  rw [List.getElem?_set_self (by rw [h.len];exact hk)]
 refine ⟨Tr,⟨by rw [List.length_set,h.len],?_,?_,?_,ω⟩⟩
 ·rw [cR hsk,htk,cR ht,show k+1 - i=(k - i)+1 by omega,cN,Int.pow_succ]
  have e:=h.eq
  have hp:(10000:Int) ^ i*10000 ^ (k - i)=10000 ^ k:=by rw [←Int.pow_add,show i+(k - i)=k by omega]
  have hd:10000*(y / 10000)+y % 10000=y:=Int.mul_ediv_add_emod y 10000;subst hy;rw [←hp] at e ⊢;generalize (10000:Int) ^ i=P at *;generalize (10000:Int) ^ (k - i)=Q at *;generalize nth b (k - i)=n3,val (b.take (k - i))=v3,val (o0.take k)=v2,val (o.take k)=v1,(t+c+x*nth b (k - i)) % 10000=r,(t+c+x*nth b (k - i)) / 10000=q at *
  grind
 ·rw [List.drop_set_of_lt (Nat.lt_succ_self k)]
  have:=congrArg (List.drop 1) h.rest
  rwa [List.drop_drop,List.drop_drop] at this
 rw [List.take_add_one,hsk,htk]
 refine dH h.ls fun z hz=>?_
 simp only [Option.toList_some,List.mem_singleton] at hz;subst hz;unfold lim;omega
theorem MInv.bK {o0 o b:List Int} {x c:Int} {i k:Nat} (h:MInv o0 o x b i k c) (ho:bK o0):bK o:=by
 rw [←List.take_append_drop k o,h.rest];exact dH h.ls (lJ ho k)
theorem MInv.fin {o0 o b:List Int} {x c:Int} {i n:Nat} (h:MInv o0 o x b i n c) (hn:o0.length=n) (hb:b.length+i<=n) {v:Int} (hv:val o0+10000 ^ i*(x*val b)=v) (hlt:v<10000 ^ n) (ho:Wh.bK o0):val o=v:=by
 have e:=h.eq;have l1:=h.len;rw [List.take_of_length_le ω,List.take_of_length_le ω,List.take_of_length_le ω,hv] at e;have o1:=db (h.bK ho);have hp:=pow_pos n;have hc:=h.c0
 by_cases h0:c=0
 ·subst h0;rw [Int.mul_zero] at e;omega
 have:=Int.mul_le_mul_of_nonneg_left (show 1<=c by omega) (Int.le_of_lt hp);omega
theorem Bu {a b:List Int} {i:Nat} {x o:Int} (hx:a[i]?=some x) (ho:o=val (a.take i)*val b):o+10000 ^ i*(x*val b)=val (a.take (i+1))*val b:=by
 rw [cR hx,ho]
 grind
theorem xJ {a b:List Int} (ha:bK a) (hb:bK b) {n:Nat} (h:a.length+b.length<=n):val a*val b<10000 ^ n:=by
 have a1:=db ha;have a2:=gT ha;have b1:=db hb;have b2:=gT hb;have p:=lR h;rw [Int.pow_add] at p;have h1:val a*val b<=val a*10000 ^ b.length:=Int.mul_le_mul_of_nonneg_left (Int.le_of_lt b2) a1;have h2:val a*10000 ^ b.length<10000 ^ a.length*10000 ^ b.length:=Int.mul_lt_mul_of_pos_right a2 (pow_pos _);omega
structure ml (a q:List Int) (n:Int) (i:Nat) (r:Int):Prop where
 len:q.length=a.length
 eq:val (a.drop i)=n*val (q.drop i)+r
 r0:0<=r/\r<n
 ls:bK (q.drop i)
theorem ml.start {a q:List Int} {n:Int} (hn:0<n) (hl:q.length=a.length):ml a q n a.length 0 where
 len:=hl
 eq:=by rw [List.drop_length,←hl,List.drop_length];simp [val]
 r0:=ω
 ls:=by rw [←hl,List.drop_length];intro x hx;cases hx
theorem ml.step {a q:List Int} {n r x:Int} {i:Nat} (h:ml a q n (i+1) r) (ha:bK a) (hx:a[i]?=some x) (hn:n<=1000000000000):(0<=r*10000+x/\r*10000+x<=10000000000000000)/\ml a (q.set i ((r*10000+x) / n)) n i ((r*10000+x) % n):=by
 have hi:=(List.getElem?_eq_some_iff.1 hx).1;have hxl:lim x:=ha x (List.mem_of_getElem? hx);unfold lim at hxl;have hr:=h.r0;have hq:(q.set i ((r*10000+x) / n))[i]?=some ((r*10000+x) / n):=List.getElem?_set_self (by rw [h.len];exact hi);have hd:(q.set i ((r*10000+x) / n)).drop (i+1)=q.drop (i+1):=List.drop_set_of_lt (Nat.lt_succ_self i)
 have hn0:0<n:=ω
 have hq0:0<=(r*10000+x) / n:=Int.ediv_nonneg ω ω;have hq1:(r*10000+x) / n<10000:=Int.ediv_lt_of_lt_mul hn0 ω;refine ⟨ω,⟨by rw [List.length_set,h.len],?_,⟨Int.emod_nonneg _ ω,Int.emod_lt_of_pos _ hn0⟩,?_⟩⟩
 ·rw [pD hx,pD hq,hd,h.eq]
  have:=Int.mul_ediv_add_emod (r*10000+x) n;generalize (r*10000+x) % n=z,(r*10000+x) / n=y at *
  grind
 rw [List.drop_eq_getElem_cons (by rw [List.length_set,h.len];exact hi),hd];intro y hy
 rcases List.mem_cons.1 hy with rfl | hy
 ·rw [List.getElem_set_self];exact ⟨hq0,hq1⟩
 exact h.ls y hy
theorem ml.fin {a q:List Int} {n r:Int} (h:ml a q n 0 r):val q=val a / n/\r=val a % n/\bK q:=by
 have e:=h.eq;rw [List.drop_zero,List.drop_zero] at e;have hr:=h.r0;have hl:=h.ls;rw [List.drop_zero] at hl;refine ⟨?_,?_,hl⟩
 ·rw [e,Int.add_comm,Int.add_mul_ediv_left _ _ ω,Int.ediv_eq_zero_of_lt hr.1 hr.2,Int.zero_add]
 rw [e,Int.add_comm,Int.add_mul_emod_self_left,Int.emod_eq_of_lt hr.1 hr.2]
end Wh
namespace Wh
def JR (x y:Int):Int:=if x<y then -1 else if y<x then 1 else 0
theorem lV {x y:Int} (h:x<y):JR x y=-1:=if_pos h
theorem rb {x y:Int} (h:y<x):JR x y=1:=by unfold JR;rw [if_neg ω,if_pos h]
theorem Gp (x:Int):JR x x=0:=by unfold JR;rw [if_neg ω,if_neg ω]
theorem uN {a:List Int} (ha:bK a) (i:Nat):val (a.take i)<10000 ^ i:=by
 have h1:=gT (gh ha i);have h2:=lR (m:=(a.take i).length) (n:=i) (by rw [List.length_take];omega);omega
theorem vX {a b:List Int} (ha:bK a) (hb:bK b) {i:Nat} (hlt:nth a i<nth b i):∀ n,i<n->(∀ j,i<j->j<n->nth a j=nth b j)->val (a.take n)<val (b.take n)
 | 0,h,_=>absurd h (Nat.not_lt_zero _)
 | n+1,h,he=>by
  by_cases hn:i=n
  ·subst hn
   have h1:=uN ha i;have h2:=db (gh hb i);rw [cN,cN];have h3:=Int.mul_le_mul_of_nonneg_left (show nth a i+1<=nth b i by omega) (Int.le_of_lt (pow_pos i));rw [Int.mul_add,Int.mul_one] at h3;omega
  have ih:=vX ha hb hlt n ω fun j h1 h2=>he j h1 ω
  rw [cN,cN,he n ω ω];omega
theorem Cn {a b:List Int}:∀ n,(∀ j,j<n->nth a j=nth b j)->val (a.take n)=val (b.take n)
 | 0,_=>by simp [val]
 | n+1,he=>by
  rw [cN,cN,he n ω,Cn n fun j h=>he j ω]
theorem iA {a:List Int} {n:Nat} (h:a.length<=n):a.take n=a:=List.take_of_length_le h
theorem AF {a b:List Int} (ha:bK a) (hb:bK b) {i n:Nat} (h1:a.length<=n) (h2:b.length<=n) (hi:i<n) (he:∀ j,i<j->j<n->nth a j=nth b j) (hlt:nth a i<nth b i):JR (val a) (val b)=-1:=by
 have:=vX ha hb hlt n hi he;rw [iA h1,iA h2] at this;exact lV this
theorem AE {a b:List Int} (ha:bK a) (hb:bK b) {i n:Nat} (h1:a.length<=n) (h2:b.length<=n) (hi:i<n) (he:∀ j,i<j->j<n->nth a j=nth b j) (hlt:nth b i<nth a i):JR (val a) (val b)=1:=by
 have:=vX hb ha hlt n hi fun j h1 h2=>(he j h1 h2).symm
 rw [iA h1,iA h2] at this;exact rb this
theorem cmp_eq {a b:List Int} {n:Nat} (h1:a.length<=n) (h2:b.length<=n) (he:∀ j,j<n->nth a j=nth b j):JR (val a) (val b)=0:=by
 have:=Cn n he;rw [iA h1,iA h2] at this;rw [this,Gp]
theorem fT {m n:Nat} (h:m<=n):(a_ m).length<=(a_ n).length:=by
 refine dw ?_;have h1:=gT (aj n);rw [bM] at h1;have h2:((10000 ^ (a_ n).length:Nat):Int)=(10000:Int) ^ (a_ n).length:=Int.natCast_pow 10000 _;generalize (10000:Int) ^ (a_ n).length=P at *;generalize 10000 ^ (a_ n).length=Q at *;omega
theorem nc {m n:Nat} (h:(a_ m).length<(a_ n).length):m<n:=by
 by_cases h':n<=m
 ·have:=fT h';omega
 omega
def JS (neg:Bool) (n:Int):Int:=if neg then -n else n
theorem xR {neg:Bool} {n:Int} (h:0<=n):decide (JS neg n<0)=(neg && decide (n≠0)):=by
 cases neg
 ·simp [JS];omega
 simp only [JS,if_true,Bool.true_and,decide_eq_decide];omega
theorem rc {neg:Bool} {n:Int} (h:0<=n):(JS neg n).natAbs=n.toNat:=by
 cases neg
 ·simp only [JS,Bool.false_eq_true,if_false];omega
 simp only [JS,if_true];omega
theorem uD (z:Int):JS (decide (z<0)) z.natAbs=z:=by
 unfold JS
 by_cases h:z<0
 ·rw [if_pos (decide_eq_true h)];omega
 rw [if_neg (by simp [h])];omega
end Wh
end
section
open Go.RowKit open M
theorem kc {a b:Int} (h:a=b):Ending.returned (.int .i64 a)=.returned (.int .i64 b):=by rw [h]
theorem fO {a b:Bool} (h:a=b):Ending.returned (.bool a)=.returned (.bool b):=by rw [h]
theorem dW (n lo hi:Int) (w:World) :
  cP 35 #[n,lo,hi] w (M.ins n lo hi):=by
 unfold M.ins
 by_cases h1:lo<=n <;> by_cases h2:n<=hi <;>
 (go_enter func35,ntmps35
  go_wp2
  go_ret;exact ⟨by simp [h1,h2],rfl⟩)
theorem dV (n lo hi:Int) (w:World) :
  cP 28 #[n,lo,hi] w (M.ins n lo hi):=by
 unfold M.ins
 by_cases h1:lo<=n <;> by_cases h2:n<=hi <;>
 (go_enter func28,ntmps28
  go_wp2
  go_ret;exact ⟨by simp [h1,h2],rfl⟩)
theorem nt (n:Int) (w:World) (h1:0<=n) (h2:n<=4000000000000000000) :
  cP 97 #[n] w (.int .i64 (M.root n)):=by
 go_enter func97,ntmps97
 go_wp2
 go_loop [3,4] (fun l h=>∃ a b:Int,0<=a/\a<b/\b<=2000000001/\l=.int .i64 a/\h=.int .i64 b/\a*a<=n/\n<b*b) (fun l h=>(intOf h - intOf l).toNat)
 case atStart=>exact ⟨0,2000000001,ω,ω,ω,rfl,rfl,by simp;omega,by simp;omega⟩
 case round=>
 obtain ⟨a,b,ha,hab,hb,rfl,rfl,ha2,hb2⟩:=hrel
 by_cases c1:1<b - a
 ·have hm1:a<(a+b) / 2:=ω
  have hm2:(a+b) / 2<b:=ω
  have KD:=lM (x:=(a+b) / 2) (y:=(a+b) / 2) (m:=2000000001) (n:=2000000001) ω ω ω ω
  by_cases c2:(a+b) / 2*((a+b) / 2)<=n
  ·go_wp2
   go_round
   case rel=>exact ⟨(a+b) / 2,b,ω,ω,ω,rfl,rfl,c2,hb2⟩
   case measure=>simp [intOf];omega
  go_wp2
  go_round
  case rel=>exact ⟨a,(a+b) / 2,ω,ω,ω,rfl,rfl,ha2,ω⟩
  case measure=>simp [intOf];omega
 go_wp2;go_ret;exact ⟨kc (me ⟨ω,ha2,by rw [show (a:Int)+1=b from ω];exact hb2⟩),rfl⟩
theorem s9 (a b:Int) (w:World) (h1:-9000000000000000000<=a) (h2:a<=9000000000000000000) (h3:-9000000000000000000<=b) (h4:b<=9000000000000000000) :
  Calls prog 83 #[a,b] w fun e w'=>e=.returned (.int .i64 (M.gcd a b))/\∃ m,w'=w.drewN m:=by
 go_enter func83,ntmps83
 go_wp2
 go_loopw [0,1] (fun va vb wr=>∃ x y:Int,va=.int .i64 x/\vb=.int .i64 y/\-9000000000000000000<=x/\x<=9000000000000000000/\-9000000000000000000<=y/\y<=9000000000000000000/\M.gcd x y=M.gcd a b/\∃ m,wr=w.drewN m) (fun _ vb _=>(intOf vb).natAbs)
 case atStart=>exact ⟨a,b,rfl,rfl,h1,h2,h3,h4,rfl,0,rfl⟩
 case round=>
 obtain ⟨x,y,rfl,rfl,x1,x2,y1,y2,hg,m,rfl⟩:=hrel;have Hg:=IU hg;clear hg
 by_cases hy:y=0
 ·subst hy
  by_cases hx:0<=x
  ·go_wp2
   all_goals (go_ret;exact ⟨kc (by rw [←Hg.out];simp only [M.gcd,Int.gcd_zero_right];omega),_,rfl⟩)
  go_wp2
  all_goals (go_ret;exact ⟨kc (by rw [←Hg.out];simp only [M.gcd,Int.gcd_zero_right];omega),_,rfl⟩)
 have ht:=Int.natAbs_tmod x y;have hm:x.natAbs % y.natAbs<y.natAbs:=Nat.mod_lt _ ω;have ht:=IU (show (x.tmod y).natAbs<y.natAbs by omega)
 have ht1:-9000000000000000000<=x.tmod y:=ω
 have ht2:x.tmod y<=9000000000000000000:=ω
 by_cases hp:0<=x/\1<=y
 ·obtain ⟨p1,p2⟩:=hp
  have e1:=IU (Int.tmod_eq_emod_of_nonneg (b:=y) p1);have hb:=rB (a:=x) p2;go_wp2
  go_quiet (fail)
  go_wp2
  go_roundw
  case rel=>exact ⟨y,x % y,rfl,rfl,y1,y2,ω,ω,by rw [←Hg.out,←e1.out];unfold M.gcd;rw [nu],_,World.drewN_drewN _ _ _⟩
  case measure=>simp [intOf];omega
 go_wp2
 go_quiet (fail)
 go_wp2
 go_roundw
 case rel=>exact ⟨y,x.tmod y,rfl,rfl,y1,y2,ht1,ht2,by rw [←Hg.out];unfold M.gcd;rw [nu],_,World.drewN_drewN _ _ _⟩
 case measure=>have:=ht.out;simp [intOf];omega
theorem dR (a b:Int) (w:World) (h1:0<=a) (h2:a<=9000000000000000000) (h3:0<=b) (h4:b<=9000000000000000000) :
  cP 52 #[a,b] w (.int .i64 (M.gcd a b)):=by
 go_enter func52,ntmps52
 go_wp2
 go_loop [0,1] (fun va vb=>∃ x y:Int,va=.int .i64 x/\vb=.int .i64 y/\0<=x/\x<=9000000000000000000/\0<=y/\y<=9000000000000000000/\M.gcd x y=M.gcd a b) (fun _ vb=>(intOf vb).toNat)
 case atStart=>exact ⟨a,b,rfl,rfl,h1,h2,h3,h4,rfl⟩
 case round=>
 obtain ⟨x,y,rfl,rfl,x1,x2,y1,y2,hg⟩:=hrel;have Hg:=IU hg;clear hg
 by_cases hy:0<y
 ·have hb:=rB (a:=x) (p:=y) ω
  have e1:=IU (Int.tmod_eq_emod_of_nonneg (b:=y) x1);go_wp2
  go_round
  case rel=>exact ⟨y,x % y,rfl,rfl,y1,y2,ω,ω,by rw [←Hg.out,←e1.out];unfold M.gcd;rw [nu]⟩
  case measure=>simp [intOf];omega
 obtain rfl:y=0:=ω
 go_wp2;go_ret;exact ⟨kc (by rw [←Hg.out];simp only [M.gcd,Int.gcd_zero_right];omega),rfl⟩
theorem fE (a b:Int) (w:World) :
  cP 94 #[a,b] w (.int .i64 (max a b)):=by
 by_cases h:b<a
 ·go_enter func94,ntmps94
  go_wp2;go_ret;exact ⟨kc ω,rfl⟩
 go_enter func94,ntmps94
 go_wp2;go_ret;exact ⟨kc ω,rfl⟩
theorem df (a:Int) (w:World) (h1:-9223372036854775807<=a) (h2:a<=9223372036854775807) :
  cP 53 #[a] w (.int .i64 (a.natAbs:Int)):=by
 go_enter func53,ntmps53
 go_wp2_with (go_at_call 94;refine (fE _ _ _).mono ?_;rintro e w' ⟨rfl,rfl⟩)
 go_ret;exact ⟨kc ω,rfl⟩
theorem jg {W w1:World} (hb:Below W W w1):(∀ b o,b<W.heap.size->w1.cell? ⟨b,o,none⟩=W.cell? ⟨b,o,none⟩)/\(∀ b o,b<W.heap.size->w1.frozen? ⟨b,o,none⟩=W.frozen? ⟨b,o,none⟩)/\W.heap.size<=w1.heap.size:=
 ⟨fun b o h=>hb.cell (p:=⟨b,o,none⟩) h,fun b o h=>hb.frozen (p:=⟨b,o,none⟩) h,hb.size⟩
theorem cF (w:World):w.drew.heap=w.heap:=rfl
theorem bF (w:World) (a:Addr) (v:Value):(w.setCell a v).heap.size=w.heap.size:=by simp [World.setCell]
theorem b6 {w W:World} (h:Below w w W) (o:Obj):Below w w (W.alloc o):=h.alloc h.size o
theorem bE {w W w':World} (h:Below w w W) (hb:Below W W w'):Below w w w':=j_ h hb
theorem aN {w W:World} (h:Below w w W) (n:Nat):Below w w (W.drewN n):=by
 induction n with
 | zero=>exact h
 | succ n ih=>exact ih.drew
theorem qb (a b:Int) (w:World) (h:ay a b=true) :
  cB 106 #[.agg #[a,b]] w (.int .i64 (aO a b)):=by
 obtain ⟨h1,h1',h2,h2'⟩:=aW h;have b1:=aH (x:=4*a) (y:=a) (m:=4000) (n:=1000);have b2:=aH (x:=4*a*a) (y:=a) (m:=4000000) (n:=1000);have b3:=aH (x:=27*b) (y:=b) (m:=270000) (n:=10000);go_enter func106,ntmps106
 go_wp2;go_ret;exact ⟨rfl,(by repeat (first | exact IX _ _ | refine b6 ?_ _ | refine bE ?_ ψ | refine Below.drew ?_ | refine IW ?_ (by first | exact IY _ | exact Nat.le_add_right _ _ | (simp <;> omega)) _ | refine aN ?_ _))⟩
theorem Ak (a b:Int) (w:World) (h:ay a b=true) :
  cB 116 #[.agg #[a,b]] w (.int .i64 (aO a b)):=by
 obtain ⟨h1,h1',h2,h2'⟩:=aW h;have b1:=aH (x:=4*a) (y:=a) (m:=4000) (n:=1000);have b2:=aH (x:=4*a*a) (y:=a) (m:=4000000) (n:=1000);have b3:=aH (x:=27*b) (y:=b) (m:=270000) (n:=10000);go_enter func116,ntmps116
 go_wp2;go_ret;exact ⟨rfl,(by repeat (first | exact IX _ _ | refine b6 ?_ _ | refine bE ?_ ψ | refine Below.drew ?_ | refine IW ?_ (by first | exact IY _ | exact Nat.le_add_right _ _ | (simp <;> omega)) _ | refine aN ?_ _))⟩
theorem pi (a b:Int) (w:World) :
  cB 62 #[.agg #[a,b]] w (M.good a b):=by
 cases h1:M.ins a (-1000) 1000
 ·go_enter func62,ntmps62
  go_wp2_with (go_at_call 28;refine (dV _ _ _ _).mono ?_;rintro e w' ⟨rfl,rfl⟩)
  go_ret;exact ⟨fO (by simp [M.good,ay,h1]),(by repeat (first | exact IX _ _ | refine b6 ?_ _ | refine bE ?_ ψ | refine Below.drew ?_ | refine IW ?_ (by first | exact IY _ | exact Nat.le_add_right _ _ | (simp <;> omega)) _ | refine aN ?_ _))⟩
 cases h2:M.ins b (-10000) 10000
 ·go_enter func62,ntmps62
  go_wp2_with (go_at_call 28;refine (dV _ _ _ _).mono ?_;rintro e w' ⟨rfl,rfl⟩)
  go_ret;exact ⟨fO (by simp [M.good,ay,h2]),(by repeat (first | exact IX _ _ | refine b6 ?_ _ | refine bE ?_ ψ | refine Below.drew ?_ | refine IW ?_ (by first | exact IY _ | exact Nat.le_add_right _ _ | (simp <;> omega)) _ | refine aN ?_ _))⟩
 go_enter func62,ntmps62
 go_wp2_with (first | (go_at_call 28;refine (dV _ _ _ _).mono ?_;rintro e w' ⟨rfl,rfl⟩) | (go_at_call 106;refine (qb _ _ _ (by simp [ay,h1,h2])).mono ?_;rintro e w' ⟨rfl,hb⟩;obtain ⟨Iu,XH,Qb⟩:=jg hb;(try simp only [IV,cF,World.heap_drewN,bF] at Qb)))
 go_ret;exact ⟨fO (by simp [M.good,ay,h1,h2]),(by repeat (first | exact IX _ _ | refine b6 ?_ _ | refine bE ?_ ψ | refine Below.drew ?_ | refine IW ?_ (by first | exact IY _ | exact Nat.le_add_right _ _ | (simp <;> omega)) _ | refine aN ?_ _))⟩
theorem io (a b:Int) (w:World) :
  cB 74 #[.agg #[a,b]] w (M.good a b):=by
 cases h1:M.ins a (-1000) 1000
 ·go_enter func74,ntmps74
  go_wp2_with (go_at_call 35;refine (dW _ _ _ _).mono ?_;rintro e w' ⟨rfl,rfl⟩)
  go_ret;exact ⟨fO (by simp [M.good,ay,h1]),(by repeat (first | exact IX _ _ | refine b6 ?_ _ | refine bE ?_ ψ | refine Below.drew ?_ | refine IW ?_ (by first | exact IY _ | exact Nat.le_add_right _ _ | (simp <;> omega)) _ | refine aN ?_ _))⟩
 cases h2:M.ins b (-10000) 10000
 ·go_enter func74,ntmps74
  go_wp2_with (go_at_call 35;refine (dW _ _ _ _).mono ?_;rintro e w' ⟨rfl,rfl⟩)
  go_ret;exact ⟨fO (by simp [M.good,ay,h2]),(by repeat (first | exact IX _ _ | refine b6 ?_ _ | refine bE ?_ ψ | refine Below.drew ?_ | refine IW ?_ (by first | exact IY _ | exact Nat.le_add_right _ _ | (simp <;> omega)) _ | refine aN ?_ _))⟩
 go_enter func74,ntmps74
 go_wp2_with (first | (go_at_call 35;refine (dW _ _ _ _).mono ?_;rintro e w' ⟨rfl,rfl⟩) | (go_at_call 116;refine (Ak _ _ _ (by simp [ay,h1,h2])).mono ?_;rintro e w' ⟨rfl,hb⟩;obtain ⟨Iu,XH,Qb⟩:=jg hb;(try simp only [IV,cF,World.heap_drewN,bF] at Qb)))
 go_ret;exact ⟨fO (by simp [M.good,ay,h1,h2]),(by repeat (first | exact IX _ _ | refine b6 ?_ _ | refine bE ?_ ψ | refine Below.drew ?_ | refine IW ?_ (by first | exact IY _ | exact Nat.le_add_right _ _ | (simp <;> omega)) _ | refine aN ?_ _))⟩
def cv (a b:Int):Value:=.agg #[a,b]
theorem qr {a b:Int} (h:b≠0):0<M.gcd a b:=by
 unfold M.gcd;have:0<Int.gcd a b:=Int.gcd_pos_of_ne_zero_right _ h;omega
def cY (a b:Int):Int:=if b<0 then -a.tdiv (M.gcd a b) else a.tdiv (M.gcd a b)
def bU (a b:Int):Int:=if b<0 then -b.tdiv (M.gcd a b) else b.tdiv (M.gcd a b)
theorem gt {a b:Int} (h:b<0):cY a b=-a.tdiv (M.gcd a b):=if_pos h
theorem d9 {a b:Int} (h:0<=b):cY a b=a.tdiv (M.gcd a b):=if_neg ω
theorem gp {a b:Int} (h:b<0):bU a b=-b.tdiv (M.gcd a b):=if_pos h
theorem d8 {a b:Int} (h:0<=b):bU a b=b.tdiv (M.gcd a b):=if_neg ω
theorem gO {a d m:Int} (h1:-m<=a) (h2:a<=m) (hd:d≠0):-m<=a.tdiv d/\a.tdiv d<=m:=by
 have:(a.tdiv d).natAbs<=a.natAbs:=by rw [Int.natAbs_tdiv];exact Nat.div_le_self _ _
 omega
theorem A0 {a b:Int} (h:b≠0):M.gcd a b<=b.natAbs:=by
 unfold M.gcd;have:=Nat.le_of_dvd ω (Nat.gcd_dvd_right a.natAbs b.natAbs);simp only [Int.gcd];omega
theorem kH (a b:Int) (w:World) (h1:-4000000000000000000<=a) (h2:a<=4000000000000000000) (h3:-4000000000000000000<=b) (h4:b<=4000000000000000000) (h0:b≠0) :
  cB 99 #[a,b] w (.tuple #[cY a b,bU a b]):=by
 have hg:=qr (a:=a) h0;have hl:=A0 (a:=a) h0
 have hgg:M.gcd a.natAbs b.natAbs=M.gcd a b:=by simp [M.gcd,Int.gcd]
 have t1:=gO (d:=M.gcd a b) h1 h2 ω;have t2:=gO (d:=M.gcd a b) h3 h4 ω
 by_cases hb:b<0
 ·have e1:=IU (gt (a:=a) hb)
  have e2:=IU (gp (a:=a) hb);go_enter func99,ntmps99
  go_wp2_with (first | (go_at_call 53;refine (df _ _ ω ω).mono ?_;rintro e w' ⟨rfl,rfl⟩) | (go_at_call 52;refine (dR _ _ _ ω ω ω ω).mono ?_;rintro e w' ⟨rfl,rfl⟩))
  go_quiet (fail)
  go_wp2;go_ret2;exact ⟨by rw [e1.out,e2.out];rfl,(by repeat (first | exact IX _ _ | refine b6 ?_ _ | refine bE ?_ ψ | refine Below.drew ?_ | refine IW ?_ (by first | exact IY _ | exact Nat.le_add_right _ _ | (simp <;> omega)) _ | refine aN ?_ _))⟩
 have e1:=IU (d9 (a:=a) (b:=b) ω);have e2:=IU (d8 (a:=a) (b:=b) ω);go_enter func99,ntmps99
 go_wp2_with (first | (go_at_call 53;refine (df _ _ ω ω).mono ?_;rintro e w' ⟨rfl,rfl⟩) | (go_at_call 52;refine (dR _ _ _ ω ω ω ω).mono ?_;rintro e w' ⟨rfl,rfl⟩))
 go_quiet (fail)
 go_wp2;go_ret2;exact ⟨by rw [e1.out,e2.out];rfl,(by repeat (first | exact IX _ _ | refine b6 ?_ _ | refine bE ?_ ψ | refine Below.drew ?_ | refine IW ?_ (by first | exact IY _ | exact Nat.le_add_right _ _ | (simp <;> omega)) _ | refine aN ?_ _))⟩
theorem aE {W w':World} (hb:Below W W w') {p:Addr} {v:Value} (h:W.cell? p=some v):w'.cell? p=some v:=
 (hb.cell (World.block_lt_of_cell? W _ h)).trans h
theorem Dl {W w':World} (hb:Below W W w') {p:Addr} (h:p.block<W.heap.size) (hf:W.frozen? p=false):w'.frozen? p=false:=
 (hb.frozen h).trans hf
theorem wG {a b:Int} (h:ay a b=true):-10000000000<=aO a b/\aO a b<=10000000000:=by
 obtain ⟨h1,h1',h2,h2'⟩:=aW h;have b1:=aH (x:=4*a) (y:=a) (m:=4000) (n:=1000);have b2:=aH (x:=4*a*a) (y:=a) (m:=4000000) (n:=1000);have b3:=aH (x:=27*b) (y:=b) (m:=270000) (n:=10000);unfold aO;omega
theorem Jz {p:Prop} (h:p:=by repeat (first | exact IX _ _ | refine b6 ?_ _ | refine bE ?_ ψ | refine Below.drew ?_ | refine IW ?_ (by first | exact IY _ | exact Nat.le_add_right _ _ | (simp <;> omega)) _ | refine aN ?_ _)):p:=h
theorem kN:(prog.info? 3).map (fun i=>(i.zero,i.size,i.bytes))=some (some (.int .i64 0),1,8):=κ
def aF (w:World) (base:Nat) (v:Value) (xs:List Int):Prop:=w.ownsRow base 3 1 v xs.length (xs.map (Value.int .i64))
theorem aF.nil (w:World) (base:Nat):aF w base (.slice none 0 0) []:=World.ownsRow_nil w base _ 1
theorem aF.push {w:World} {base:Nat} {v':Value} {xs:List Int} {n:Nat} {x:Int} {ys:List Int} (hn:n=xs.length) (h:w.ownsRow base 3 1 v' (n+1) (xs.map (Value.int .i64) ++ [.int .i64 x])) (he:ys=xs ++ [x]):aF w base v' ys:=by
 subst hn he
 simpa [aF] using h
theorem aF.below {w w':World} {base:Nat} {v:Value} {xs:List Int} (h:aF w base v xs) (hb:Below w w w'):aF w' base v xs:=by
 obtain ⟨h1,h2⟩:=h;refine ⟨h1,?_⟩
 rcases h2 with h2 | ⟨g,cap,cur,hv,hg,hh,r⟩
 ·exact Or.inl h2
 exact Or.inr ⟨g,cap,cur,hv,hg,by rw [hb.block g (Array.getElem?_eq_some_iff.1 hh).1];exact hh,r⟩
theorem aF.base {w:World} {base base':Nat} {v:Value} {xs:List Int} (h:aF w base v xs) (hb:base'<=base):aF w base' v xs:=by
 obtain ⟨h1,h2⟩:=h;refine ⟨h1,?_⟩
 rcases h2 with h2 | ⟨g,cap,cur,hv,hg,hh,r⟩
 ·exact Or.inl h2
 exact Or.inr ⟨g,cap,cur,hv,Nat.le_trans hb hg,hh,r⟩
theorem rI (x:Int):∀ u ∈ [Value.int .i64 x],u.oneCell'=true:=by
 intro u hu;simp only [List.mem_singleton] at hu;subst hu;rfl
theorem aF.view {w:World} {base:Nat} {v:Value} {xs:List Int} (h:aF w base v xs):∃ (a:Option Addr) (cap:Nat),v=.slice a xs.length cap/\(xs.length:Int)<=9223372036854775807/\
  ∀ k,k<xs.length->∃ g x,a=some ⟨g,0,none⟩/\base<=g/\Hid (xs[k]?=some x)/\w.cell? ⟨g,k,none⟩=some (.int .i64 x):=by
 obtain ⟨h1,h2⟩:=h
 rcases h2 with ⟨rfl,hn⟩ | ⟨g,cap,cur,rfl,hg,hh,hc,hm,hs,ht⟩
 ·refine ⟨none,0,by rw [hn],ω,fun k hk=>ω⟩
 refine ⟨some ⟨g,0,none⟩,cap,rfl,by unfold maxLen at hm;omega,fun k hk=>⟨g,xs[k],rfl,hg,List.getElem?_eq_getElem hk,?_⟩⟩;rw [cell_of_row w g k cur _ (0,0) hh]
 have e:(xs.map (Value.int .i64))[k]?=some (.int .i64 xs[k]):=by
  rw [List.getElem?_map,List.getElem?_eq_getElem hk];rfl
 rw [←ht,List.getElem?_take] at e
 split at e
 ·simpa using e
 cases e
theorem lZ {xs:List Int} {k:Nat} {x:Int} (h:xs[k]?=some x):xs.take (k+1)=xs.take k ++ [x]:=by
 obtain ⟨hk,e⟩:=List.getElem?_eq_some_iff.1 h;rw [List.take_succ_eq_append_getElem hk,e]
theorem dJ {ops:Array Oper} {rest:List Oper} {o:Oper} {a:Act} {Q:Exit->Act->World->Prop} {w W:World} (base:Nat) (y:Int) (xs:List Int) (v:Value) (hgd:o.guard=none) (s x:Operand)
  (ho:o.op=.call { callee:=.builtin .append,args:=#[s,x],argTypes:=#[29,29] }) (hs:a.eval s=v) (hx:a.eval x=.slice (some ⟨w,0,none⟩) 1 1)
  (hown:aF w base v xs) (hW:Below base W w) (hB:base<=w.heap.size) (hl:xs.length<=10000000000)
  (h:∀ v' w',aF w' base v' (xs ++ [y])->Below base W w'->wpList prog ops Q rest (a.put o.dst v') w') :
  wpList prog ops Q (o :: rest) a (w.alloc (.cells #[y] 3)):=by
 obtain ⟨i0,hi,hz0,hz1,hz2⟩:=info_parts kN
 refine wpList_append_own _ hgd s x 29 ho base 3 i0 (.int .i64 0) 1 8 Tryz.underlying29 hi hz0 hz1 hz2 rfl δ v xs.length (xs.map (Value.int .i64)) hs (hown.alloc _) ⟨w,0,none⟩ 1 1 [.int .i64 y] hx rfl (fun j u hu=>by
  have hadd:(⟨w,0,none⟩:Addr).add j=⟨w,j,none⟩:=by unfold Addr.add;split <;> simp_all
  rw [hadd,World.cell?_alloc_at _ _ _ _ rfl]
  simpa using hu) (rI _) ?_ ?_ ?_ ?_
 ·unfold maxLen;omega
 ·omega
 ·simp;omega
 intro v' w' h1 h2 _;exact h v' w' (aF.push rfl h1 rfl) ((hW.alloc hB _).grown h2 (by simp;omega) fun k hk=>(hown.lt k hk).1)
def ei (w:World) (hi:Nat) (v:Value) (xs:List Int):Prop:=
 ∃ (a:Option Addr) (cap:Nat),v=.slice a xs.length cap/\(xs.length:Int)<=9223372036854775807/\
  ∀ k,k<xs.length->∃ g x,a=some ⟨g,0,none⟩/\g<hi/\Hid (xs[k]?=some x)/\w.cell? ⟨g,k,none⟩=some (.int .i64 x)
theorem ei.below {w w':World} {hi:Nat} {v:Value} {xs:List Int} (h:ei w hi v xs) (hb:Below hi w w'):ei w' hi v xs:=by
 obtain ⟨a,cap,h1,h2,h3⟩:=h;refine ⟨a,cap,h1,h2,fun k hk=>?_⟩;obtain ⟨g,x,e1,e2,e3,e4⟩:=h3 k hk;exact ⟨g,x,e1,e2,e3,(hb.cell (p:=⟨g,k,none⟩) e2).trans e4⟩
theorem ei.mono {w:World} {hi hi':Nat} {v:Value} {xs:List Int} (h:ei w hi v xs) (hh:hi<=hi'):ei w hi' v xs:=by
 obtain ⟨a,cap,h1,h2,h3⟩:=h;refine ⟨a,cap,h1,h2,fun k hk=>?_⟩;obtain ⟨g,x,e1,e2,e3,e4⟩:=h3 k hk;exact ⟨g,x,e1,ω,e3,e4⟩
theorem aF.seen {w:World} {base:Nat} {v:Value} {xs:List Int} (h:aF w base v xs):ei w w v xs:=by
 obtain ⟨a,cap,h1,h2,h3⟩:=h.view;refine ⟨a,cap,h1,h2,fun k hk=>?_⟩;obtain ⟨g,x,e1,e2,e3,e4⟩:=h3 k hk;exact ⟨g,x,e1,World.block_lt_of_cell? w _ e4,e3,e4⟩
theorem ei.len {w:World} {hi:Nat} {v:Value} {xs:List Int} (h:ei w hi v xs):(xs.length:Int)<=9223372036854775807:=by
 obtain ⟨a,cap,h1,h2,h3⟩:=h;exact h2
theorem dU {a b c:World} {r:Option Nat} (h:a.grownBy b r) (k:b.grownBy c r):a.grownBy c r:=
 ⟨k.os.trans h.os,k.tape.trans h.tape,k.output.trans h.output,Nat.le_trans h.size k.size,fun i hi hne=>(k.block i (Nat.lt_of_lt_of_le hi h.size) hne).trans (h.block i hi hne)⟩
theorem dl (a:World) (r:Option Nat):a.grownBy a r:=⟨rfl,rfl,rfl,IY _,fun _ _ _=>rfl⟩
theorem kK {a b:World} {r:Option Nat} (h:a.grownBy b r) (n:Nat):a.grownBy (b.drewN n) r:=⟨h.os,h.tape,h.output,h.size,h.block⟩
theorem bS {a b:World} {r:Option Nat} {base:Nat} (h:a.grownBy b r) (hb:base<=a.heap.size) (hr:∀ k,r=some k->base<=k):Below base a b:=
 ⟨h.os,h.tape,h.output,h.size,fun i hi=>h.block i ω (fun e=>by have:=hr i e.symm;omega)⟩
theorem bO {a b:World} (h:Below a a b) (r:Option Nat):a.grownBy b r:=⟨h.os,h.tape,h.output,h.size,fun i hi _=>h.block i hi⟩
theorem aF.set {w:World} {base g cap n j:Nat} {xs:List Int} (hn:n=xs.length) (h:aF w base (.slice (some ⟨g,0,none⟩) n cap) xs) (x:Int) {ys:List Int} (he:ys=xs.set j x) :
  aF (w.setCell ⟨g,j,none⟩ (.int .i64 x)) base (.slice (some ⟨g,0,none⟩) n cap) ys/\w.grownBy (w.setCell ⟨g,j,none⟩ (.int .i64 x)) (some g):=by
 subst he hn;have:=World.ownsRow.stored (g:=g) (cap:=cap) h j (.int .i64 x);refine ⟨?_,this.2⟩;unfold aF;rw [List.map_set,List.length_set];exact this.1
theorem aF.form {w:World} {base:Nat} {v:Value} {xs:List Int} (h:aF w base v xs) (hn:0<xs.length):∃ g cap,v=.slice (some ⟨g,0,none⟩) xs.length cap/\base<=g/\g<w.heap.size:=by
 rcases h.2 with ⟨rfl,h2⟩ | ⟨g,cap,cur,rfl,hg,hh,-⟩
 ·omega
 exact ⟨g,cap,rfl,hg,(Array.getElem?_eq_some_iff.1 hh).1⟩
theorem aF.Dn (w:World) (base:Nat) (hb:base<=w.heap.size):aF (w.alloc (.cells #[] 3)) base (.slice (some ⟨w,0,none⟩) 0 0) []:=
 World.ownsRow_made w #[] 0 hb (by unfold maxLen;omega) rfl
theorem aF.lt {w:World} {base:Nat} {v:Value} {xs:List Int} (h:aF w base v xs):∀ k,v.ownBlock=some k->base<=k/\k<w.heap.size:=World.ownsRow.lt h
theorem aF.alloc {w:World} {base:Nat} {v:Value} {xs:List Int} (h:aF w base v xs) (o:Obj):aF (w.alloc o) base v xs:=World.ownsRow.alloc h o
theorem aF.forms {w:World} {base:Nat} {v:Value} {xs:List Int} (h:aF w base v xs):(v=.slice none 0 0/\xs=[])∨∃ g cap,v=.slice (some ⟨g,0,none⟩) xs.length cap/\base<=g:=by
 rcases h.2 with ⟨e,h2⟩ | ⟨g,cap',cur,e,hg,-⟩
 ·exact Or.inl ⟨e,List.eq_nil_of_length_eq_zero h2⟩
 exact Or.inr ⟨g,cap',e,hg⟩
theorem aF.cap {w:World} {base:Nat} {a:Option Addr} {n cap:Nat} {xs:List Int} (h:aF w base (.slice a n cap) xs):xs.length<=cap/\cap<=9223372036854775807:=by
 rcases h.2 with ⟨e,h2⟩ | ⟨g,cap',cur,e,-,-,h3,h4,-⟩
 ·injection e with e1 e2 e3
  exact ω
 injection e with e1 e2 e3
 unfold maxLen at h4;exact ω
theorem gM {P:Program} (w:World) (base:Nat) (t ty e:TypeId) (i:TypeInfo) (size:Nat) (ht:P.underlying t=some (.slice e)) (hi:P.info? e=some i)
  (v:Value) (n:Nat) (xs:List Value) (hown:w.ownsRow base e size v n xs) (c:Nat):(Builtin.append_ #[t,t] ty #[v,.slice none 0 c]).run P w=.ok v w:=by
 rcases hown.2 with ⟨rfl,rfl⟩ | ⟨g,cap,cur,rfl,_,_,hnc,_⟩
 ·simp [Builtin.append_,run_underlying ht,sizeOf,typeInfo,hi,Builtin.lenOf,Builtin.firstCells]
 simp [Builtin.append_,run_underlying ht,sizeOf,typeInfo,hi,Builtin.lenOf,Builtin.firstCells,hnc,storeCells]
theorem rZ {w W:World} (base:Nat) (ty:TypeId) (ys xs:List Int) (v:Value) (A:Option Addr) (c:Nat)
  (hr:∀ j y,ys[j]?=some y->∃ ad,A=some ad/\w.cell? (ad.add j)=some (.int .i64 y)) (hown:aF w base v xs) (hW:Below base W w) (hB:base<=w.heap.size) (hl:xs.length+ys.length<=10000000000) :
  ∃ v' w',(Builtin.append_ #[29,29] ty #[v,.slice A ys.length c]).run prog w=.ok v' w'/\aF w' base v' (xs ++ ys)/\Below base W w':=by
 obtain ⟨i0,hi,hz0,hz1,hz2⟩:=info_parts kN
 cases A with
 | none=>
  have he:ys=[]:=by
   cases ys with
   | nil=>rfl
   | cons y ys=>obtain ⟨ad,h,-⟩:=hr 0 y rfl;cases h
  subst he;exact ⟨v,w,gM w base _ _ _ i0 1 Tryz.underlying29 hi _ _ _ hown c,by simpa using hown,hW⟩
 | some ad=>
 obtain ⟨v',w',h1,h2,h3,-,-⟩:=run_append_own_at (P:=prog) w base 29 ty 3 i0 (.int .i64 0) 1 8 Tryz.underlying29 hi hz0 hz1 hz2 rfl δ v xs.length (xs.map (Value.int .i64)) hown ad ys.length c (ys.map (Value.int .i64))
  σ (fun j u hu=>by
   rw [List.getElem?_map] at hu
   cases hy:ys[j]? with
   | none=>rw [hy] at hu;cases hu
   | some y=>
    rw [hy] at hu;obtain ⟨ad',h1,h2⟩:=hr j y hy;obtain rfl:=Option.some.inj h1;obtain rfl:=Option.some.inj hu
    exact h2) (fun u hu=>by
   obtain ⟨y,-,rfl⟩:=List.mem_map.1 hu
   rfl) (by unfold maxLen;omega) ω hB
 refine ⟨v',w',h1,?_,hW.grown h3 hB fun k hk=>(hown.lt k hk).1⟩;unfold aF;rw [List.map_append,List.length_append];exact h2
theorem tf {ops:Array Oper} {rest:List Oper} {o:Oper} {a:Act} {Q:Exit->Act->World->Prop} {w W:World} (base:Nat) (ys xs:List Int) (v:Value) (A:Option Addr) (m c:Nat) (hm:ys.length=m) (hgd:o.guard=none) (s x:Operand)
  (ho:o.op=.call { callee:=.builtin .append,args:=#[s,x],argTypes:=#[29,29] }) (hs:a.eval s=v) (hx:a.eval x=.slice A m c)
  (hr:∀ j y,ys[j]?=some y->∃ ad,A=some ad/\w.cell? (ad.add j)=some (.int .i64 y)) (hown:aF w base v xs) (hW:Below base W w) (hB:base<=w.heap.size) (hl:xs.length+ys.length<=10000000000)
  (h:∀ v' w',aF w' base v' (xs ++ ys)->Below base W w'->wpList prog ops Q rest (a.put o.dst v') w') :
  wpList prog ops Q (o :: rest) a w:=by
 subst hm
 refine wpList_plain hgd fun _ hK=>?_
 obtain ⟨v',w',h1,h2,h3⟩:=rZ (w:=w) (W:=W) base o.type ys xs v A c hr hown hW hB hl;unfold Oper.wp execOp;simp only [ho,resolve,invoke,builtin,Sem.run_bind,Sem.run_pure,Result.andThen_ok,List.map_toArray,List.map_cons,List.map_nil,hs,hx,h1];exact hK _ _ (h v' w' h2 h3)
namespace Rw
variable {α:Type}
structure Enc (α:Type) where
 t:TypeId
 k:Nat
 cells:α->List Value
 len:∀ x,(cells x).length=k
 one:∀ x,∀ u ∈ cells x,u.oneCell'=true
 pos:0<k
theorem cX (E:Enc α):∀ xs:List α,(xs.flatMap E.cells).length=xs.length*E.k
 | []=>σ
 | x :: xs=>by rw [List.flatMap_cons,List.length_append,cX E xs,E.len,List.length_cons,Nat.add_mul];omega
theorem flat_get (E:Enc α):∀ (xs:List α) (j i:Nat) (x:α),xs[j]?=some x->i<E.k->(xs.flatMap E.cells)[j*E.k+i]?=(E.cells x)[i]?
 | [],_,_,_,h,_=>by simp at h
 | y :: ys,0,i,x,h,hi=>by
  simp only [List.getElem?_cons_zero,Option.some.injEq] at h;subst h;rw [List.flatMap_cons,Nat.zero_mul,Nat.zero_add,List.getElem?_append_left (by rw [E.len];exact hi)]
 | y :: ys,j+1,i,x,h,hi=>by
  have ih:=flat_get E ys j i x (by simpa using h) hi;rw [List.flatMap_cons,List.getElem?_append_right (by rw [E.len,Nat.add_mul];omega),E.len];rw [←ih]
  congr 1
  rw [Nat.add_mul];omega
theorem lG (E:Enc α) (xs:List α) (n:Nat):(xs.take n).flatMap E.cells=(xs.flatMap E.cells).take (n*E.k):=by
 have e:xs.flatMap E.cells=(xs.take n).flatMap E.cells ++ (xs.drop n).flatMap E.cells:=by rw [←List.flatMap_append,List.take_append_drop]
 rcases Nat.lt_or_ge n xs.length with h | h
 ·have hl:((xs.take n).flatMap E.cells).length=n*E.k:=by rw [cX,List.length_take,Nat.min_eq_left ω]
  rw [e,←hl,List.take_left]
 rw [List.take_of_length_le h,List.take_of_length_le (by rw [cX];exact Nat.mul_le_mul_right _ h)]
theorem yD (E:Enc α) (xs:List α) (n:Nat):(xs.drop n).flatMap E.cells=(xs.flatMap E.cells).drop (n*E.k):=by
 have e:xs.flatMap E.cells=(xs.take n).flatMap E.cells ++ (xs.drop n).flatMap E.cells:=by rw [←List.flatMap_append,List.take_append_drop]
 rcases Nat.lt_or_ge n xs.length with h | h
 ·have hl:((xs.take n).flatMap E.cells).length=n*E.k:=by rw [cX,List.length_take,Nat.min_eq_left ω]
  rw [e,←hl,List.drop_left]
 rw [List.drop_eq_nil_of_le h,List.drop_eq_nil_of_le (by rw [cX];exact Nat.mul_le_mul_right _ h)];rfl
theorem pV (E:Enc α) (xs:List α):∀ u ∈ xs.flatMap E.cells,u.oneCell'=true:=by
 intro u hu;obtain ⟨x,-,h⟩:=List.mem_flatMap.1 hu;exact E.one x u h
def Own (E:Enc α) (w:World) (base:Nat) (v:Value) (xs:List α):Prop:=w.ownsRow base E.t E.k v xs.length (xs.flatMap E.cells)
variable {E:Enc α} {w w':World} {base base':Nat} {v:Value} {xs:List α}
theorem Own.nil (E:Enc α) (w:World) (base:Nat):Own E w base (.slice none 0 0) ([]:List α):=World.ownsRow_nil w base _ _
theorem Own.Dn (E:Enc α) (w:World) (base:Nat) (hb:base<=w.heap.size):Own E (w.alloc (.cells #[] E.t)) base (.slice (some ⟨w,0,none⟩) 0 0) ([]:List α):=
 World.ownsRow_made w #[] 0 hb (by unfold maxLen;omega) σ
theorem Own.kept {r:Option Nat} (h:Own E w base v xs) (hg:w.grownBy w' r) (hr:∀ g,r=some g->v.ownBlock≠some g):Own E w' base v xs:=by
 refine World.ownsRow.kept h hg ?_
 cases r with
 | none=>
  cases hv:v.ownBlock
  ·exact Or.inl rfl
  exact Or.inr σ
 | some g=>exact Or.inr (hr g rfl)
theorem Own.below (h:Own E w base v xs) (hb:Below w w w'):Own E w' base v xs:=h.kept (bO hb none) fun g hg=>by cases hg
theorem Own.down (h:Own E w base v xs) (hb:base'<=base):Own E w base' v xs:=by
 obtain ⟨h1,h2⟩:=h;refine ⟨h1,?_⟩
 rcases h2 with h2 | ⟨g,cap,cur,hv,hg,hh,r⟩
 ·exact Or.inl h2
 exact Or.inr ⟨g,cap,cur,hv,Nat.le_trans hb hg,hh,r⟩
theorem Own.alloc (h:Own E w base v xs) (o:Obj):Own E (w.alloc o) base v xs:=World.ownsRow.alloc h o
theorem Own.lt (h:Own E w base v xs):∀ g,v.ownBlock=some g->base<=g/\g<w.heap.size:=World.ownsRow.lt h
theorem Own.forms (h:Own E w base v xs):(v=.slice none 0 0/\xs=[])∨∃ g cap,v=.slice (some ⟨g,0,none⟩) xs.length cap/\base<=g/\g<w.heap.size/\xs.length<=cap/\cap<=9223372036854775807:=by
 rcases h.2 with ⟨e,h2⟩ | ⟨g,cap',cur,e,hg,hh,h3,h4,-⟩
 ·exact Or.inl ⟨e,List.eq_nil_of_length_eq_zero h2⟩
 exact Or.inr ⟨g,cap',e,hg,(Array.getElem?_eq_some_iff.1 hh).1,h3,by unfold maxLen at h4;omega⟩
def Seen (E:Enc α) (w:World) (hi:Nat) (v:Value) (xs:List α):Prop:=
 ∃ (a:Option Addr) (cap:Nat),v=.slice a xs.length cap/\xs.length<=cap/\cap<=9223372036854775807/\
  ∀ j,j<xs.length->∃ g x,a=some ⟨g,0,none⟩/\g<hi/\Hid (xs[j]?=some x)/\∀ i u,(E.cells x)[i]?=some u->w.cell? ⟨g,j*E.k+i,none⟩=some u
theorem Seen.below {hi:Nat} (h:Seen E w hi v xs) (hb:Below hi w w'):Seen E w' hi v xs:=by
 obtain ⟨a,cap,h1,h2,h2',h3⟩:=h;refine ⟨a,cap,h1,h2,h2',fun k hk=>?_⟩;obtain ⟨g,x,e1,e2,e3,e4⟩:=h3 k hk;exact ⟨g,x,e1,e2,e3,fun i u hu=>(hb.cell (p:=⟨g,k*E.k+i,none⟩) e2).trans (e4 i u hu)⟩
theorem Own.seen (h:Own E w base v xs):Seen E w w v xs:=by
 have hf:=h.forms;obtain ⟨h1,h2⟩:=h
 rcases h2 with ⟨rfl,hn⟩ | ⟨g,cap,cur,rfl,hg,hh,hc,hm,hs,ht⟩
 ·exact ⟨none,0,by rw [hn],ω,ω,fun k hk=>ω⟩
 refine ⟨some ⟨g,0,none⟩,cap,rfl,hc,by unfold maxLen at hm;omega,fun j hj=>⟨g,xs[j],rfl,(Array.getElem?_eq_some_iff.1 hh).1,List.getElem?_eq_getElem hj,fun i u hu=>?_⟩⟩;rw [cell_of_row w g _ cur _ (0,0) hh]
 have hi:i<E.k:=by rw [←E.len xs[j]];exact (List.getElem?_eq_some_iff.1 hu).1
 have e:=flat_get E xs j i _ (List.getElem?_eq_getElem hj) hi;rw [hu,←ht,List.getElem?_take] at e
 split at e
 ·simpa using e
 cases e
def From (E:Enc α) (w:World) (A:Option Addr) (ys:List α):Prop:=∀ j u,(ys.flatMap E.cells)[j]?=some u->∃ ad,A=some ad/\w.cell? (ad.add j)=some u
theorem From.nil (E:Enc α) (w:World) (A:Option Addr):From E w A ([]:List α):=fun j u h=>by simp at h
theorem From.lit (E:Enc α) (w:World) (x:α) (H:Nat) (hH:w.heap.size=H):From E (w.alloc (.cells (E.cells x).toArray E.t)) (some ⟨H,0,none⟩) [x]:=by
 intro j u h;subst hH
 have hadd:∀ b i:Nat,(⟨b,0,none⟩:Addr).add i=⟨b,i,none⟩:=fun b i=>by unfold Addr.add;split <;> simp_all
 refine ⟨_,rfl,?_⟩;rw [hadd,World.cell?_alloc_at _ _ _ _ rfl]
 simpa using h
theorem Own.cellAt {g n cap:Nat} (hn:n=xs.length) (h:Own E w base (.slice (some ⟨g,0,none⟩) n cap) xs) (j:Nat) (u:Value) (hu:(xs.flatMap E.cells)[j]?=some u):w.cell? ⟨g,j,none⟩=some u/\w.frozen? ⟨g,j,none⟩=false:=by
 subst hn;have hj:=(List.getElem?_eq_some_iff.1 hu).1;rw [cX] at hj;exact ⟨(World.ownsRow.cellAt h j hj).trans hu,World.ownsRow.frozenAt h j⟩
theorem Own.FN {g n cap:Nat} (hn:n=xs.length) (h:Own E w base (.slice (some ⟨g,0,none⟩) n cap) xs) {hi:Nat} (hhi:g<hi) (hb:Below hi w w') (m:Nat):From E w' (some ⟨g,0,none⟩) (xs.take m):=by
 intro j u hu
 have hadd:∀ b i:Nat,(⟨b,0,none⟩:Addr).add i=⟨b,i,none⟩:=fun b i=>by unfold Addr.add;split <;> simp_all
 rw [lG,List.getElem?_take] at hu
 split at hu
 ·exact ⟨_,rfl,by rw [hadd];exact (hb.cell (p:=⟨g,j,none⟩) hhi).trans (h.cellAt hn j u hu).1⟩
 cases hu
theorem ke (base g cap n:Nat) (t:TypeId) (k:Nat):∀ (l:List Value) (o:Nat) (w:World) (zs:List Value),w.ownsRow base t k (.slice (some ⟨g,0,none⟩) n cap) n zs->
  ∃ ys,(w.setCells g o l).ownsRow base t k (.slice (some ⟨g,0,none⟩) n cap) n ys/\ys.take o=zs.take o/\w.grownBy (w.setCells g o l) (some g)
 | [],o,w,zs,h=>⟨zs,h,rfl,dl _ _⟩
 | u :: l,o,w,zs,h=>by
  have h1:=World.ownsRow.stored h o u;obtain ⟨ys,k1,k2,k3⟩:=ke base g cap n t k l (o+1) _ _ h1.1;refine ⟨ys,k1,?_,dU h1.2 k3⟩;have:=congrArg (List.take o) k2;rw [List.take_take,List.take_take,Nat.min_eq_left ω] at this;rw [this,List.take_set,List.set_eq_of_length_le (by rw [List.length_take];omega)]
theorem ES {t:TypeId} {k g n cap i:Nat} {zs:List Value} (h:w.ownsRow base t k (.slice (some ⟨g,0,none⟩) n cap) n zs) (hi:i<=n):w.ownsRow base t k (.slice (some ⟨g,0,none⟩) i cap) i (zs.take (i*k)):=by
 obtain ⟨h1,h2⟩:=h;have hik:i*k<=n*k:=Nat.mul_le_mul_right _ hi
 rcases h2 with ⟨e,-⟩ | ⟨g',cap',cur,e,hg,hh,hc,hm,hs,ht⟩
 ·cases e
 injection e with e1 e2 e3
 simp only [Option.some.injEq,Addr.mk.injEq,and_true] at e1;subst e1 e3;refine ⟨by rw [List.length_take];omega,Or.inr ⟨g,cap,cur,rfl,hg,hh,ω,hm,hs,?_⟩⟩;rw [←ht,List.take_take,Nat.min_eq_left hik]
theorem Own.cut {g n cap i:Nat} {ys:List α} (hn:n=xs.length) (h:Own E w base (.slice (some ⟨g,0,none⟩) n cap) xs) (hi:i<=n) (l:List Value) (hy:ys=xs.take i) (o:Nat) (ho:o=i*E.k) :
  Own E (w.setCells g o l) base (.slice (some ⟨g,0,none⟩) i cap) ys/\w.grownBy (w.setCells g o l) (some g):=by
 subst hn hy ho;obtain ⟨rs,k1,k2,k3⟩:=ke base g cap xs.length E.t E.k l (i*E.k) w _ h;refine ⟨?_,k3⟩
 have hl:(xs.take i).length=i:=by rw [List.length_take];omega
 have:=ES k1 hi;rw [k2,←lG] at this;unfold Own;rw [hl];exact this
theorem sr (E:Enc α):∀ (xs:List α) (j:Nat) (x:α),j<xs.length->∀ t,((xs.set j x).flatMap E.cells)[t]?=if j*E.k<=t/\t<j*E.k+E.k then (E.cells x)[t - j*E.k]? else (xs.flatMap E.cells)[t]?
 | [],j,x,h,_=>by simp at h
 | y :: ys,0,x,h,t=>by
  rw [List.set_cons_zero,List.flatMap_cons,List.flatMap_cons]
  by_cases ht:t<E.k
  ·rw [List.getElem?_append_left (by rw [E.len];exact ht),if_pos ω]
   simp
  rw [List.getElem?_append_right (by rw [E.len];omega),if_neg ω,List.getElem?_append_right (by rw [E.len];omega),E.len,E.len]
 | y :: ys,j+1,x,h,t=>by
  have ih:=sr E ys j x (by simpa using h);rw [List.set_cons_succ,List.flatMap_cons,List.flatMap_cons]
  have e:(j+1)*E.k=j*E.k+E.k:=by rw [Nat.add_mul];omega
  by_cases ht:t<E.k
  ·rw [List.getElem?_append_left (by rw [E.len];exact ht),List.getElem?_append_left (by rw [E.len];exact ht),if_neg ω]
  rw [List.getElem?_append_right (by rw [E.len];omega),List.getElem?_append_right (by rw [E.len];omega),E.len,ih (t - E.k),e]
  by_cases hc:j*E.k<=t - E.k/\t - E.k<j*E.k+E.k
  ·rw [if_pos hc,if_pos ω]
   congr 1
   omega
  rw [if_neg hc,if_neg ω]
structure Fits (P:Program) (E:Enc α) (ts:TypeId):Prop where
 under:P.underlying ts=some (.slice E.t)
 info:∃ i z,P.info? E.t=some i/\i.zero=some z/\i.size=E.k/\i.bytes<=1000/\z.cells.size=E.k
theorem tz {P:Program} {ts:TypeId} (F:Fits P E ts) {W:World} (ty:TypeId) (ys:List α) (A:Option Addr) (c:Nat)
  (hr:From E w A ys) (hown:Own E w base v xs) (hW:Below base W w) (hB:base<=w.heap.size) (hl:xs.length+ys.length<=100000000000) :
  ∃ v' w',(Builtin.append_ #[ts,ts] ty #[v,.slice A ys.length c]).run P w=.ok v' w'/\Own E w' base v' (xs ++ ys)/\Below base W w':=by
 obtain ⟨i,z,hi,hz,hs,hby,hzc⟩:=F.info
 cases A with
 | none=>
  have he:ys=[]:=by
   cases ys with
   | nil=>rfl
   | cons y ys=>
   have hp:=E.pos;have hl:=E.len y;obtain ⟨ad,h,-⟩:=hr 0 ((E.cells y)[0]' ω) (by rw [List.flatMap_cons,List.getElem?_append_left ω];exact List.getElem?_eq_getElem _);cases h
  subst he;exact ⟨v,w,gM w base _ _ _ i E.k F.under hi _ _ _ hown c,by simpa using hown,hW⟩
 | some ad=>
 have hbb:(xs.length+ys.length)*i.bytes<=140737488355328:=Nat.le_trans (Nat.mul_le_mul hl hby) ω
 obtain ⟨v',w',h1,h2,h3,-,-⟩:=run_append_own_at (P:=P) w base ts ty E.t i z E.k i.bytes F.under hi hz hs rfl hzc E.pos v xs.length (xs.flatMap E.cells) hown ad ys.length c (ys.flatMap E.cells)
  (cX E ys) (fun j u hu=>by
   obtain ⟨ad',h1,h2⟩:=hr j u hu;obtain rfl:=Option.some.inj h1
   exact h2) (pV E ys) (by unfold maxLen;omega) hbb hB
 refine ⟨v',w',h1,?_,hW.grown h3 hB fun k hk=>(Own.lt hown k hk).1⟩;unfold Own;rw [List.flatMap_append,List.length_append];exact h2
theorem push {P:Program} {ts:TypeId} (F:Fits P E ts) {ops:Array Oper} {rest:List Oper} {o:Oper} {a:Act} {Q:Exit->Act->World->Prop} {W:World} (base:Nat) (ys xs:List α) (v:Value) (A:Option Addr) (m c:Nat) (hm:ys.length=m) (hgd:o.guard=none) (s x:Operand)
  (ho:o.op=.call { callee:=.builtin .append,args:=#[s,x],argTypes:=#[ts,ts] }) (hs:a.eval s=v) (hx:a.eval x=.slice A m c)
  (hr:From E w A ys) (hown:Own E w base v xs) (hW:Below base W w) (hB:base<=w.heap.size) (hl:xs.length+ys.length<=100000000000)
  (h:∀ v' w',Own E w' base v' (xs ++ ys)->Below base W w'->wpList P ops Q rest (a.put o.dst v') w') :
  wpList P ops Q (o :: rest) a w:=by
 subst hm
 refine wpList_plain hgd fun _ hK=>?_
 obtain ⟨v',w',h1,h2,h3⟩:=tz F (w:=w) (W:=W) (base:=base) o.type ys A c hr hown hW hB hl;unfold Oper.wp execOp;simp only [ho,resolve,invoke,builtin,Sem.run_bind,Sem.run_pure,Result.andThen_ok,List.map_toArray,List.map_cons,List.map_nil,hs,hx,h1];exact hK _ _ (h v' w' h2 h3)
end Rw
end
section
open M
namespace M
theorem qC {q d:Int} (hq:ia q) (h2:2<=d) (hd:q % d=0):d=q:=by
 have hdvd:d ∣ q:=Int.dvd_of_emod_eq_zero hd;obtain ⟨c,hc⟩:=hdvd;have hq2:=hq.1
 have hc1:1<=c:=by
  rcases Int.lt_or_le c 1 with h | h
  ·have:d*c<=0:=Int.mul_nonpos_of_nonneg_of_nonpos ω ω
   omega
  exact h
 rcases Int.lt_or_le c 2 with h | h
 ·have:c=1:=ω
  rw [this] at hc;omega
 exfalso
 rcases Int.lt_or_le c d with h' | h'
 ·refine hq.2 c h ?_ ?_
  ·rw [hc];exact Int.mul_le_mul_of_nonneg_right ω ω
  rw [hc];exact Int.mul_emod_left d c
 refine hq.2 d h2 ?_ hd;rw [hc];exact Int.mul_le_mul_of_nonneg_left h' ω
theorem yd {q x:Int} (hq:ia q) (h:¬ x % q=0):Int.gcd q x=1:=by
 have hg:(Int.gcd q x:Int) ∣ q:=Int.gcd_dvd_left ..;have hg2:(Int.gcd q x:Int) ∣ x:=Int.gcd_dvd_right ..;have hq2:=hq.1;have hpos:0<Int.gcd q x:=Int.gcd_pos_of_ne_zero_left _ ω
 rcases Nat.lt_or_ge (Int.gcd q x) 2 with k | k
 ·omega
 exfalso
 have:=qC hq (d:=(Int.gcd q x:Int)) ω (Int.emod_eq_zero_of_dvd hg);rw [this] at hg2;exact h (Int.emod_eq_zero_of_dvd hg2)
theorem ye {q x y:Int} (hq:ia q) (h:x*y % q=0) (hx:¬ x % q=0):y % q=0:=by
 have h1:=Int.dvd_gcd_mul_iff_dvd_mul.2 (Int.dvd_of_emod_eq_zero h);rw [yd hq hx] at h1;exact Int.emod_eq_zero_of_dvd (by simpa using h1)
noncomputable def pL (n p:Int):Bool:=prime p && (n % p == 0)
noncomputable def tZ (n:Int):List Int:=sel (pL n) 0 (n.natAbs+1)
theorem uB {f:Int->Bool} {k m:Nat} (h:∀ x:Int,(k:Int)<=x->x<m->f x=false) (hkm:k<=m):sel f 0 m=sel f 0 k:=by
 induction m with
 | zero=>
      obtain rfl:k=0:=ω
      rfl
 | succ m ih=>
 rcases Nat.lt_or_ge k (m+1) with q | q
 ·rw [CR (by rw [Int.zero_add];exact h m ω ω),ih (fun x h1 h2=>h x h1 ω) ω]
 obtain rfl:k=m+1:=ω
 rfl
structure kq (N n p:Int) (l:List Int):Prop where
 n1:1<=n
 p2:2<=p
 nN:n<=N
 pn:n=1∨p<=n
 pN:p<=N+1
 dvd:N % n=0
 low:∀ d:Int,2<=d->d<p->¬ n % d=0
 big:∀ q:Int,ia q->p<=q->N % q=0->n % q=0
 out:l=sel (pL N) 0 p.toNat
theorem kq.start {N:Int} (h:1<=N):kq N N 2 [] where
 n1:=h
 p2:=ω
 nN:=ω
 pn:=ω
 pN:=ω
 dvd:=Int.emod_self
 low:=fun d h1 h2=>ω
 big:=fun q _ _ h=>h
 out:=by
  have:sel (pL N) 0 2=sel (pL N) 0 0:=uB (fun x h1 h2=>by
   unfold pL;rw [yf.2 (fun h=>by have:=h.1;omega)]
   rfl) ω
  exact this.symm
theorem kq.prime {N n p:Int} {l:List Int} (h:kq N n p l) (hn:1<n) (hp:n<p*p):ia n:=by
 refine ⟨ω,fun d h2 hd=>h.low d h2 ?_⟩;exact IM (by have:=h.p2;omega) ω
theorem nh {a b c:Int} (h:c % b=0) (k:b % a=0):c % a=0:=
 Int.emod_eq_zero_of_dvd (Int.dvd_trans (Int.dvd_of_emod_eq_zero k) (Int.dvd_of_emod_eq_zero h))
structure Q9 (n p n':Int):Prop where
 n1:1<=n'
 nn:n'<=n
 dvd:n % n'=0
 big:∀ q:Int,ia q->p<q->n % q=0->n' % q=0
theorem Q9.start {n p:Int} (h:1<=n):Q9 n p n:=⟨h,ω,Int.emod_self,fun _ _ _ h=>h⟩
theorem pf {n p:Int} (hp:1<=p) (h:n % p=0):n / p*p=n:=Int.ediv_mul_cancel (Int.dvd_of_emod_eq_zero h)
theorem Fy {n p:Int} (hp:2<=p) (hn:1<=n):n / p<n:=by
 have:=Int.ediv_lt_of_lt_mul (a:=n) (b:=n) (c:=p) ω (by
  have:=Int.mul_le_mul_of_nonneg_left hp (show 0<=n by omega)
  omega)
 exact this
theorem Q9.step {n p n':Int} (h:Q9 n p n') (hp:ia p) (hd:n' % p=0):Q9 n p (n' / p):=by
 have hp2:=hp.1;have he:=pf ω hd;have h1:=h.n1
 have hpos:1<=n' / p:=by
  rcases Int.lt_or_le (n' / p) 1 with k | k
  ·have:n' / p*p<=0:=Int.mul_nonpos_of_nonpos_of_nonneg ω ω
   omega
  exact k
 have hlt:=Fy hp2 h1;refine ⟨hpos,by have:=h.nn;omega,nh h.dvd ?_,fun q hq hpq hnq=>?_⟩
 ·exact Int.emod_eq_zero_of_dvd ⟨p,he.symm⟩
 have:=h.big q hq hpq hnq;refine ye hq (x:=p) ?_ ?_
 ·rw [Int.mul_comm,he];exact this
 intro hz;have:=qC hp hq.1 hz;omega
theorem kq.Gt {N n p:Int} {l:List Int} (h:kq N n p l) (hd:n % p=0):ia p:=
 ⟨h.p2,fun d h2 hdp hz=>h.low d h2 (by
  rcases Int.lt_or_le d p with k | k
  ·exact k
  have:p*p<=d*d:=Int.mul_le_mul k k (by have:=h.p2;omega) ω;have:2*p<=p*p:=Int.mul_le_mul_of_nonneg_right h.p2 (by have:=h.p2;omega);have:=h.p2
  omega) (nh hd hz)⟩
theorem Bo {N n p:Int} {l:List Int} (h:kq N n p l) (hd:n % p=0):pL N p=true:=by
 simp [pL,lS.2 (h.Gt hd),nh h.dvd hd]
theorem D1 {N n p:Int} {l:List Int} (h:kq N n p l) (hd:¬ n % p=0):pL N p=false:=by
 unfold pL
 cases hp:prime p
 ·rfl
 cases hN:(N % p == 0)
 ·rfl
 exact absurd (h.big p (lS.1 hp) ω (by simpa using hN)) hd
theorem kq.next {N n p n':Int} {l l':List Int} (h:kq N n p l) (hn:1<n) (hi:Q9 n p n') (hd:¬ n' % p=0) (hl:l'=if n % p=0 then l ++ [p] else l):kq N n' (p+1) l' where
 n1:=hi.n1
 p2:=by have:=h.p2;omega
 nN:=by have:=hi.nn;have:=h.nN;omega
 pn:=by
  rcases Int.lt_or_le 1 n' with k | k
  ·right
   rcases Int.lt_or_le p n' with g | g
   ·omega
   exfalso
   rcases Int.lt_or_le n' p with f | f
   ·exact h.low n' ω f hi.dvd
   have:n'=p:=ω
   rw [this] at hd;exact hd Int.emod_self
  left
  have:=hi.n1;omega
 pN:=by
  have h1:=h.nN
  rcases h.pn with k | k <;> omega
 dvd:=nh h.dvd hi.dvd
 low:=fun d h2 hdp hz=>by
  rcases Int.lt_or_le d p with k | k
  ·exact h.low d h2 k (nh hi.dvd hz)
  have:d=p:=ω
  rw [this] at hz;exact hd hz
 big:=fun q hq hpq hN=>hi.big q hq ω (h.big q hq ω hN)
 out:=by
  have hp2:=h.p2
  have e:(p+1).toNat=p.toNat+1:=ω
  rw [e,hl]
  by_cases hz:n % p=0
  ·rw [if_pos hz,EU (by rw [Int.zero_add,Int.toNat_of_nonneg ω];exact Bo h hz),←h.out,Int.zero_add,Int.toNat_of_nonneg ω]
  rw [if_neg hz,CR (by rw [Int.zero_add,Int.toNat_of_nonneg ω];exact D1 h hz),←h.out]
theorem kq.done {N n p:Int} {l:List Int} (h:kq N n p l) (hn:n<=1):l=tZ N:=by
 have h1:=h.n1
 have hn:n=1:=ω
 have hN:=h.nN;rw [h.out];unfold tZ
 have e:((N.natAbs:Nat):Int)=N:=ω
 refine (uB (fun x h2 h3=>?_) (by have:=h.pN;omega)).symm;unfold pL
 cases hp:M.prime x
 ·rfl
 cases hd:(N % x == 0)
 ·rfl
 have hx:=lS.1 hp;have:=h.big x hx (by have:=h.p2;omega) (by simpa using hd);rw [hn] at this;have:=hx.1;have:(1:Int) % x=1:=Int.emod_eq_of_lt ω ω;omega
theorem Cz {a p:Int} (hp:2<=p) (ha:a≠0) (h:a % p=0):(a / p).natAbs<a.natAbs/\a / p≠0:=by
 have he:=pf (n:=a) ω h
 have e2:a.natAbs=(a / p).natAbs*p.natAbs:=by rw [←Int.natAbs_mul,he]
 have hp':2<=p.natAbs:=ω
 have hne:a / p≠0:=by
  intro hz;rw [hz] at he;omega
 have:(a / p).natAbs*2<=(a / p).natAbs*p.natAbs:=Nat.mul_le_mul_left _ hp';exact ⟨ω,hne⟩
end M
namespace M
def qF (u4 u6:Int):Nat->Int->Int->Int × Int
 | 0,a,b=>(a,b)
 | f+1,a,b=>if a % u4=0/\b % u6=0/\(a≠0∨b≠0) then qF u4 u6 f (a / u4) (b / u6) else (a,b)
theorem Cd {u4 u6:Int} {f:Nat} {a b:Int} (hf:a.natAbs+b.natAbs<=f) (h:a % u4=0) (h':b % u6=0) (hn:a≠0∨b≠0):qF u4 u6 f a b=qF u4 u6 (f - 1) (a / u4) (b / u6):=by
 cases f with
 | zero=>omega
 | succ f=>simp [qF,h,h',hn]
theorem kB {a p:Int} (hp:2<=p) (h:a % p=0):(a / p).natAbs<=a.natAbs/\(a≠0->(a / p).natAbs<a.natAbs/\a / p≠0):=by
 by_cases ha:a=0
 ·subst ha;simp
 have:=Cz hp ha h;exact ⟨ω,fun _=>this⟩
theorem yv {u4 u6 a b:Int} (h4:2<=u4) (h6:2<=u6) (h:a % u4=0) (h':b % u6=0) (hn:a≠0∨b≠0) :
  (a / u4).natAbs+(b / u6).natAbs<a.natAbs+b.natAbs/\(a / u4≠0∨b / u6≠0):=by
 have h1:=kB h4 h;have h2:=kB h6 h'
 rcases hn with k | k
 ·have:=h1.2 k
  exact ⟨ω,Or.inl this.2⟩
 have:=h2.2 k;exact ⟨ω,Or.inr this.2⟩
def vU (u4 u6:Int) (x:Int × Int):Int × Int:=qF u4 u6 (x.1.natAbs+x.2.natAbs) x.1 x.2
def YT (x:Int × Int):Int × Int:=vU 16 64 x
def nb2 (x:Int × Int):Int × Int:=vU 81 729 (YT x)
structure zM (u4 u6:Int) (p:Int × Int) (x y:Int):Prop where
 ne:x≠0∨y≠0
 bx:x.natAbs<=p.1.natAbs
 bY:y.natAbs<=p.2.natAbs
 st:∃ f,x.natAbs+y.natAbs<=f/\qF u4 u6 f x y=vU u4 u6 p
theorem zM.start {u4 u6 x y:Int} {p:Int × Int} (hp:(x,y)=p) (h:x≠0∨y≠0):zM u4 u6 p x y:=by
 subst hp;exact ⟨h,IY _,IY _,_,IY _,rfl⟩
theorem zM.step {u4 u6 x y:Int} {p:Int × Int} (h4:2<=u4) (h6:2<=u6) (h:zM u4 u6 p x y) (hx:x % u4=0) (hy:y % u6=0):zM u4 u6 p (x / u4) (y / u6):=by
 obtain ⟨f,hf,hs⟩:=h.st;have hsum:=yv h4 h6 hx hy h.ne;have h1:=(kB h4 hx).1;have h2:=(kB h6 hy).1;refine ⟨hsum.2,Nat.le_trans h1 h.bx,Nat.le_trans h2 h.bY,f - 1,ω,?_⟩;rw [←Cd hf hx hy h.ne];exact hs
end M
namespace M
def dc (p:Int):Nat->Int
 | 0=>1
 | k+1=>dc p k*p
theorem wX {p:Int} (h1:0<=p) (h2:p<=1000):∀ k:Nat,0<=dc p k/\dc p k<=1000 ^ k
 | 0=>by simp [dc]
 | k+1=>by
  obtain ⟨a,b⟩:=wX h1 h2 k;have:=lM a b h1 h2;simp only [dc,Int.pow_succ];exact this
theorem tH {p:Int} (h1:0<=p) (h2:p<=1000) {k:Nat} (hk:k<=5):0<=dc p k/\dc p k<=1000000000000000:=by
 have:=wX h1 h2 k
 have e:(1000:Int) ^ k<=1000000000000000:=by
  rcases (show k=0∨k=1∨k=2∨k=3∨k=4∨k=5 by omega) with rfl | rfl | rfl | rfl | rfl | rfl <;> decide
 omega
end M
namespace M
def Inc (l:List Int):Prop:=l.Pairwise (·<·)
theorem Inc.ext:∀ {l m:List Int},Inc l->Inc m->(∀ x,x ∈ l ↔ x ∈ m)->l=m
 | [],[],_,_,_=>rfl
 | [],y :: m,_,_,h=>absurd ((h y).2 List.mem_cons_self) σ
 | x :: l,[],_,_,h=>absurd ((h x).1 List.mem_cons_self) σ
 | x :: l,y :: m,h1,h2,h=>by
  obtain ⟨a1,b1⟩:=List.pairwise_cons.1 h1;obtain ⟨a2,b2⟩:=List.pairwise_cons.1 h2
  have hxy:x=y:=by
   rcases List.mem_cons.1 ((h x).1 List.mem_cons_self) with e | e
   ·exact e
   rcases List.mem_cons.1 ((h y).2 List.mem_cons_self) with e' | e'
   ·exact e'.symm
   have:=a1 y e';have:=a2 x e;omega
  subst hxy
  congr 1
  refine Inc.ext b1 b2 fun z=>⟨fun hz=>?_,fun hz=>?_⟩
  ·rcases List.mem_cons.1 ((h z).1 (List.mem_cons_of_mem _ hz)) with e | e
   ·have:=a1 z hz;omega
   exact e
  rcases List.mem_cons.1 ((h z).2 (List.mem_cons_of_mem _ hz)) with e | e
  ·have:=a2 z hz;omega
  exact e
def cn (xs:List Int) (n:Int):Nat:=(xs.takeWhile (decide <| ·<n)).length
def put (xs:List Int) (n:Int):List Int:=if xs[cn xs n]?=some n then xs else xs.take (cn xs n) ++ [n] ++ xs.drop (cn xs n)
end M
namespace M
def four (u:Int):Int:=u*u*u*u
def six (u:Int):Int:=u*u*u*u*u*u
def DK (a b u:Int):Bool:=decide (a % four u=0) && decide (b % six u=0)
def sm (a b:Int):Int:=if DK a b 5 then 5 else if DK a b 4 then 4 else if DK a b 3 then 3 else if DK a b 2 then 2 else 1
def Oc (c d:Int × Int):Bool:=decide (c.1<d.1) || (decide (c.1=d.1) && decide (c.2<d.2))
theorem wC {c d:Int × Int}:Oc c d=true ↔ c.1<d.1∨(c.1=d.1/\c.2<d.2):=by simp [Oc]
theorem qY (c:Int × Int):Oc c c=false:=by
 cases h:Oc c c
 ·rfl
 rw [wC] at h;omega
theorem Ft {a b c:Int × Int} (h1:Oc a b=true) (h2:Oc b c=true):Oc a c=true:=by
 rw [wC] at *;omega
def Cv (l:List (Int × Int)):Prop:=l.Pairwise (fun a b=>Oc a b=true)
theorem Cv.ext:∀ {l m:List (Int × Int)},Cv l->Cv m->(∀ x,x ∈ l ↔ x ∈ m)->l=m
 | [],[],_,_,_=>rfl
 | [],y :: m,_,_,h=>absurd ((h y).2 List.mem_cons_self) σ
 | x :: l,[],_,_,h=>absurd ((h x).1 List.mem_cons_self) σ
 | x :: l,y :: m,h1,h2,h=>by
  obtain ⟨a1,b1⟩:=List.pairwise_cons.1 h1;obtain ⟨a2,b2⟩:=List.pairwise_cons.1 h2
  have hxy:x=y:=by
   rcases List.mem_cons.1 ((h x).1 List.mem_cons_self) with e | e
   ·exact e
   rcases List.mem_cons.1 ((h y).2 List.mem_cons_self) with e' | e'
   ·exact e'.symm
   have:=Ft (a1 y e') (a2 x e);rw [qY] at this;cases this
  subst hxy
  congr 1
  refine Cv.ext b1 b2 fun z=>⟨fun hz=>?_,fun hz=>?_⟩
  ·rcases List.mem_cons.1 ((h z).1 (List.mem_cons_of_mem _ hz)) with e | e
   ·have:=a1 z hz;rw [e,qY] at this;cases this
   exact e
  rcases List.mem_cons.1 ((h z).2 (List.mem_cons_of_mem _ hz)) with e | e
  ·have:=a2 z hz;rw [e,qY] at this;cases this
  exact e
end M
end
section
open Go.RowKit open M Rw
theorem jS {w:World} {b1 b2 n1 n2 s1 s2:Nat} {t1 t2:TypeId} {v1 v2:Value} {x1 x2:List Value} (h1:w.ownsRow b1 t1 s1 v1 n1 x1) (h2:w.ownsRow b2 t2 s2 v2 n2 x2) (ht:t1≠t2):∀ g,v2.ownBlock=some g->v1.ownBlock≠some g:=by
 intro g hg hg'
 rcases h1.2 with ⟨rfl,-⟩ | ⟨g1,c1,MY,rfl,-,Mc,-⟩
 ·cases hg'
 rcases h2.2 with ⟨rfl,-⟩ | ⟨g2,c2,cur2,rfl,-,Le,-⟩
 ·cases hg
 simp only [Value.ownBlock,Option.some.injEq] at hg hg';subst hg hg';rw [Mc] at Le
 injection Le with Le
 injection Le with _ ht' _
 exact ht ht'
namespace Rw
variable {α:Type} {E:Enc α} {w w':World} {base:Nat} {v:Value} {xs:List α}
theorem Own.Hq (E:Enc α) (x:α) (w:World) (base:Nat) (hb:base<=w.heap.size):Own E (w.alloc (.cells (E.cells x).toArray E.t)) base (.slice (some ⟨w,0,none⟩) 1 1) [x]:=
 ⟨by simp [E.len],.inr ⟨w,1,(E.cells x).toArray,rfl,hb,heap_alloc_new w _,IY 1,by unfold maxLen;omega,by simp [E.len],by simp [E.len,List.take_of_length_le]⟩⟩
theorem qE {P:Program} {ts:TypeId} (F:Fits P E ts) (ty:TypeId) (ys:List α) (ad:Addr) (c:Nat)
  (hr:From E w (some ad) ys) (hown:Own E w base v xs) (hB:base<=w.heap.size) (hl:xs.length+ys.length<=100000000000) :
  ∃ v' w',(Builtin.append_ #[ts,ts] ty #[v,.slice (some ad) ys.length c]).run P w=.ok v' w'/\Own E w' base v' (xs ++ ys)/\w.grownBy w' v.ownBlock/\(v'.ownBlock=v.ownBlock∨v'.ownBlock=some w.heap.size):=by
 obtain ⟨i,z,hi,hz,hs,hby,hzc⟩:=F.info;have hbb:(xs.length+ys.length)*i.bytes<=140737488355328:=Nat.le_trans (Nat.mul_le_mul hl hby) ω
 obtain ⟨v',w',h1,h2,h3,-,h5⟩:=run_append_own_at (P:=P) w base ts ty E.t i z E.k i.bytes F.under hi hz hs rfl hzc E.pos v xs.length (xs.flatMap E.cells) hown ad ys.length c (ys.flatMap E.cells)
  (cX E ys) (fun j u hu=>by
   obtain ⟨ad',h1,h2⟩:=hr j u hu;obtain rfl:=Option.some.inj h1
   exact h2) (pV E ys) (by unfold maxLen;omega) hbb hB
 refine ⟨v',w',h1,?_,h3,h5⟩;unfold Own;rw [List.flatMap_append,List.length_append];exact h2
theorem oi {P:Program} {ts:TypeId} (F:Fits P E ts) {ops:Array Oper} {rest:List Oper} {o:Oper} {a:Act} {Q:Exit->Act->World->Prop} (base:Nat) (ys xs:List α) (v:Value) (ad:Addr) (m c:Nat) (hm:ys.length=m) (hgd:o.guard=none) (s x:Operand)
  (ho:o.op=.call { callee:=.builtin .append,args:=#[s,x],argTypes:=#[ts,ts] }) (hs:a.eval s=v) (hx:a.eval x=.slice (some ad) m c)
  (hr:From E w (some ad) ys) (hown:Own E w base v xs) (hB:base<=w.heap.size) (hl:xs.length+ys.length<=100000000000)
  (h:∀ v' w',Own E w' base v' (xs ++ ys)->w.grownBy w' v.ownBlock->(v'.ownBlock=v.ownBlock∨v'.ownBlock=some w.heap.size)->wpList P ops Q rest (a.put o.dst v') w') :
  wpList P ops Q (o :: rest) a w:=by
 subst hm
 refine wpList_plain hgd fun _ hK=>?_
 obtain ⟨v',w',h1,h2,h3,h4⟩:=qE F (w:=w) (base:=base) o.type ys ad c hr hown hB hl;unfold Oper.wp execOp;simp only [ho,resolve,invoke,builtin,Sem.run_bind,Sem.run_pure,Result.andThen_ok,List.map_toArray,List.map_cons,List.map_nil,hs,hx,h1];exact hK _ _ (h v' w' h2 h3 h4)
end Rw
def EI:Rw.Enc Int where
 t:=3
 k:=1
 cells:=fun c=>[.int .i64 c]
 len:=fun _=>rfl
 one:=fun x u hu=>by simp only [List.mem_singleton] at hu;subst hu;rfl
 pos:=δ
theorem He:Rw.Fits prog EI 29:=⟨Tryz.underlying29,by
 obtain ⟨i0,hi,hz0,hz1,hz2⟩:=info_parts kN
 exact ⟨i0,_,hi,hz0,hz1,ω,rfl⟩⟩
theorem At (xs:List Int):xs.flatMap EI.cells=xs.map (Value.int .i64):=by
 induction xs with
 | nil=>rfl
 | cons x xs ih=>rw [List.flatMap_cons,ih];rfl
theorem tW {w:World} {base:Nat} {v:Value} {xs:List Int}:aF w base v xs ↔ Rw.Own EI w base v xs:=by
 unfold aF Rw.Own;rw [At];rfl
theorem aF.cellAt {w:World} {base g n cap:Nat} {xs:List Int} (hn:n=xs.length) (h:aF w base (.slice (some ⟨g,0,none⟩) n cap) xs) {i:Nat} {t:Int} (ht:xs[i]?=some t):w.cell? ⟨g,i,none⟩=some (.int .i64 t):=by
 have hi:=(List.getElem?_eq_some_iff.1 ht).1;subst hn;have:=World.ownsRow.cellAt (g:=g) (cap:=cap) (n:=xs.length) h i ω;rw [this,List.getElem?_map,ht];rfl
end
section
open Go.RowKit Go.Shelf open M
theorem aF.setCells (base g cap n:Nat):∀ (l:List Int) (o:Nat) (w:World) (xs:List Int),n=xs.length->aF w base (.slice (some ⟨g,0,none⟩) n cap) xs->
  ∃ ys,aF (w.setCells g o (l.map (Value.int .i64))) base (.slice (some ⟨g,0,none⟩) n cap) ys/\ys.take o=xs.take o/\ys.length=xs.length/\w.grownBy (w.setCells g o (l.map (Value.int .i64))) (some g)
 | [],o,w,xs,_,h=>⟨xs,h,rfl,rfl,dl _ _⟩
 | x :: l,o,w,xs,hn,h=>by
  have h1:=aF.set (j:=o) hn h x rfl;obtain ⟨ys,k1,k2,k3,k4⟩:=aF.setCells base g cap n l (o+1) _ (xs.set o x) (by rw [List.length_set];exact hn) h1.1;refine ⟨ys,k1,?_,by rw [k3,List.length_set],dU h1.2 k4⟩;have:=congrArg (List.take o) k2;rw [List.take_take,List.take_take,Nat.min_eq_left ω] at this;rw [this,List.take_set,List.set_eq_of_length_le (by rw [List.length_take];omega)]
theorem aF.cut {w:World} {base g cap n:Nat} {xs:List Int} (hn:n=xs.length) (h:aF w base (.slice (some ⟨g,0,none⟩) n cap) xs) {i:Nat} (hi:i<=n) {ys:List Int} (hy:ys=xs.take i):aF w base (.slice (some ⟨g,0,none⟩) i cap) ys:=by
 subst hy hn;obtain ⟨h1,h2⟩:=h
 have hl:(xs.take i).length=i:=by rw [List.length_take];omega
 rcases h2 with ⟨e,-⟩ | ⟨g',cap',cur,e,hg,hh,hc,hm,hs,ht⟩
 ·cases e
 injection e with e1 e2 e3
 simp only [Option.some.injEq,Addr.mk.injEq,and_true] at e1;subst e1 e3;refine ⟨σ,Or.inr ⟨g,cap,cur,by rw [hl],hg,hh,ω,hm,hs,?_⟩⟩;have:=congrArg (List.take i) ht;rw [List.take_take,Nat.min_eq_left ω] at this;rw [hl,Nat.mul_one,this,List.map_take]
end
section
open Go.RowKit open M Rw
theorem sy {w:World} {base:Nat} {v:Value} {xs:List Int} (h:aF w base v xs):∃ A cap,v=.slice A xs.length cap/\∀ w',Below w w w'->∀ j y,xs[j]?=some y->∃ ad,A=some ad/\w'.cell? (ad.add j)=some (.int .i64 y):=by
 have hadd:∀ b i:Nat,(⟨b,0,none⟩:Addr).add i=⟨b,i,none⟩:=fun b i=>by unfold Addr.add;split <;> simp_all
 obtain ⟨a,cap,rfl,hm,hv⟩:=h.seen;refine ⟨a,cap,rfl,fun w' hb j y hy=>?_⟩;obtain ⟨g,x,e1,e2,e3,e4⟩:=hv j (List.getElem?_eq_some_iff.1 hy).1;obtain rfl:=Option.some.inj (e3.out.symm.trans hy);exact ⟨_,e1,by rw [hadd];exact (hb.cell (p:=⟨g,j,none⟩) e2).trans e4⟩
theorem sZ (xs:List Int) (v:Value) (w:World) (base:Nat) (hown:aF w base v xs) (hl:xs.length<=1000000000) :
  Calls prog 146 #[v] w fun e w'=>∃ v',e=.returned v'/\aF w' w v' xs/\Below w w w':=by
 rcases hown.forms with ⟨rfl,rfl⟩ | ⟨g,cap,rfl,hg⟩
 ·have he:∀ W:World,(binOp .eql 29 (.slice none 0 0) (.slice none 0 0)).run prog W=.ok (.bool true) W:=fun _=>rfl
  go_enter func146,ntmps146
  go_wp2;go_ret;exact ⟨_,rfl,aF.nil _ _,IX _ _⟩
 obtain ⟨A,cap',e,hf⟩:=sy hown
 injection e with e1 e2 e3
 subst e1 e3;clear e2;have hf:=IU hf
 have he:∀ W:World,(binOp .eql 29 (.slice (some ⟨g,0,none⟩) xs.length cap) (.slice none 0 0)).run prog W=.ok (.bool false) W:=fun _=>rfl
 go_enter func146,ntmps146
 go_wp2_with (at_builtin;refine tf (W:=w) w xs [] _ (some ⟨g,0,none⟩) _ _ (by rfl) (by rfl) (.tmp 5) (.tmp 6) (by rfl) (by rfl) (by rfl) (hf.out _ Jz) (aF.Dn _ _ (IY _)) Jz σ (by simp;omega) ?_;rintro v1 w1 hown1 hb1)
 go_ret;exact ⟨_,rfl,hown1,hb1⟩
end
section
open Go.RowKit open M
namespace Gr
variable {w0 w w':World} {r:Option Nat}
theorem set {g:Nat} (h:w0.grownBy w (some g)) (o:Nat) (v:Value):w0.grownBy (w.setCell ⟨g,o,none⟩ v) (some g):=by
 refine ⟨h.os,h.tape,h.output,by simpa [World.setCell] using h.size,fun i hi hne=>?_⟩;exact (Below.heap_setCell _ _ _ _ (by rintro rfl;exact hne rfl)).trans (h.block i hi hne)
theorem lU (h:w0.grownBy w r) {p:Addr} (hp:w0.heap.size<=p.block) (v:Value):w0.grownBy (w.setCell p v) r:=by
 refine ⟨h.os,h.tape,h.output,by simpa [World.setCell] using h.size,fun i hi hne=>?_⟩;exact (Below.heap_setCell _ _ _ _ ω).trans (h.block i hi hne)
theorem frozen (hg:w.grownBy w' r) {a:Addr} (hl:a.block<w.heap.size) (hne:some a.block≠r):w'.frozen? a=w.frozen? a:=
 World.frozen?_of_block (hg.block _ hl hne)
theorem drew (h:w0.grownBy w r):w0.grownBy w.drew r:=kK h 1
theorem below {B:Nat} (h:w0.grownBy w r) (k:Below B w w') (hB:w.heap.size<=B):w0.grownBy w' r:=dU h (bO (k.mono hB) r)
theorem alloc (h:w0.grownBy w r) (o:Obj):w0.grownBy (w.alloc o) r:=dU h (World.grownBy_alloc w o r)
theorem gW {g b o:Nat} {v:Value} (hg:w.grownBy w' (some g)) (h:w.cell? ⟨b,o,none⟩=some v) (hn:b≠g):w'.cell? ⟨b,o,none⟩=some v:=
 hg.cell h (by simpa using hn)
theorem yE {g b o:Nat} (hg:w.grownBy w' (some g)) (hs:b<w.heap.size) (h:w.frozen? ⟨b,o,none⟩=false) (hn:b≠g):w'.frozen? ⟨b,o,none⟩=false:=
 (frozen hg hs (by simpa using hn)).trans h
theorem mE {n:Nat} (hg:w.grownBy w' r) (h:n<w.heap.size):n<w'.heap.size:=Nat.lt_of_lt_of_le h hg.size
theorem Gg {W:World} {o o':Obj} {p:Addr} {v:Value} (h:(W.alloc o).cell? p=some v) (hp:p.block=W.heap.size->False):(W.alloc o').cell? p=some v:=by
 have hb:p.block<W.heap.size:=by
  have h1:=World.block_lt_of_cell? (W.alloc o) _ h;rw [IV] at h1
  rcases Nat.lt_or_ge p.block W with h2 | h2
  ·exact h2
  exact (hp ω).elim
 have e1:=(Below.alloc (IX W W) (IY _) o).cell (p:=p) hb;have e2:=(Below.alloc (IX W W) (IY _) o').cell (p:=p) hb;rw [e2,←e1,h]
theorem Hd {W:World} {p q:Addr} {u v:Value} (h:W.cell? p=some v) (hp:p.block=q.block->False):(W.setCell q u).cell? p=some v:=
 (World.cell?_of_block (w:=W) (Below.heap_setCell _ _ _ _ hp)).trans h
theorem Wt {W:World} {p q q':Addr} {u u' v:Value} (h:W.cell? p=some v) (hp:p.block=q.block->False) (hp':p.block=q'.block->False):((W.setCell q u).setCell q' u').cell? p=some v:=Hd (Hd h hp) hp'
theorem EH {W:World} {o:Obj} {p:Addr} {v:Value} (h:W.cell? p=some v):(W.alloc o).cell? p=some v:=
 ((Below.alloc (IX W W) (IY _) o).cell (World.block_lt_of_cell? W _ h)).trans h
end Gr
structure Zb (w:World) (b:Nat):Prop where
 c0:w.cell? ⟨b,0,none⟩=some (.int .i64 0)
 c1:w.cell? ⟨b,1,none⟩=some (.int .i64 0)
 f0:w.frozen? ⟨b,0,none⟩=false
 f1:w.frozen? ⟨b,1,none⟩=false
 size:b<w.heap.size
theorem Zb.new (Y:World) (T:TypeId):Zb (Y.alloc (.cells #[(0:Int),(0:Int)] T)) Y.heap.size:=
 ⟨by rw [World.cell?_alloc_at _ _ _ _ rfl];rfl,by rw [World.cell?_alloc_at _ _ _ _ rfl];rfl,by simp [go_sem],by simp [go_sem],by rw [IV];omega⟩
theorem Zb.keep {w w':World} {b:Nat} (h:Zb w b) (hb:Below w w w'):Zb w' b:=
 ⟨(hb.cell (p:=⟨b,0,none⟩) h.size).trans h.c0,(hb.cell (p:=⟨b,1,none⟩) h.size).trans h.c1,(hb.frozen (p:=⟨b,0,none⟩) h.size).trans h.f0,(hb.frozen (p:=⟨b,1,none⟩) h.size).trans h.f1,Nat.lt_of_lt_of_le h.size hb.size⟩
theorem Zb.bX {w w':World} {b g:Nat} (h:Zb w b) (hg:w.grownBy w' (some g)) (hn:b≠g):Zb w' b:=
 ⟨Gr.gW hg h.c0 hn,Gr.gW hg h.c1 hn,Gr.yE hg h.size h.f0 hn,Gr.yE hg h.size h.f1 hn,Gr.mE hg h.size⟩
theorem hlA {p:Prop} (h:p:=by (first | (with_reducible exact aE ψ ψ) | (with_reducible exact Gr.EH ψ) | (with_reducible refine Gr.Gg ψ ?_;(intro Kw;(try simp only [IV,cF,World.heap_drewN,bF] at Kw);omega)) | (with_reducible refine Gr.Wt ψ ?_ ?_ <;> (intro Kw;(try simp only [IV,cF,World.heap_drewN,bF] at Kw);omega)) | exact aE ψ ψ | (with_reducible exact Dl ψ ψ ψ))):p:=h
end
end Go.Proofs.YtkalaljcbmkbmaaGreat
