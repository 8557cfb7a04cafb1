/-
  Joined: contracts, lemmas.
-/
import Derived.Lib.Hide
import Derived.Tactics
import Derived.Below
import Derived.Test.YtlnjcilaflfnlaaGreatDoorProg
import Derived.WalkKit
import Derived.KernelRfl
import Derived.Deep.QuietTactic
import Derived.BigQuiet
import Derived.Deep.RegionHeld3
import Derived.Laws.OwnMore
import Derived.Maps.AppendAt
import Derived.OwnWalk
import Derived.RegionTactic
import Derived.Deep.DeepCutAuto
import Derived.Deep.RegionWith
import Derived.Outline
import Derived.Lib.SliceRun
import Derived.Shelf.Abstract
import Derived.Laws.Bits64b
set_option linter.unusedSimpArgs false
set_option linter.unusedVariables false
set_option maxRecDepth 100000
set_option maxHeartbeats 8000000
namespace Go.Proofs.YtlnjcilaflfnlaaGreatDoor
open _root_.Go.Proofs.Tryz
section
instance : Coe Int Value := ⟨fun n => .int .i64 n⟩
instance : Coe Nat Value := ⟨fun n => .int .i64 n⟩
instance : Coe Bool Value := ⟨fun b => .bool b⟩
def rsA (rs:Array ResultVar) (tm:Array Value):Sem Value:=do
 let vs ←rs.mapM fun
  | .tmp t=>pure (tm.getD t undef)
  | .cell a t=>do loadVar t (←asAddr (tm.getD a undef))
 pure (if h:vs.size=1 then vs[0] else .tuple vs)
theorem KU {P:Program} {fn:Func} {R:Ending→World→Prop} {a:Act} {w:World} {v:Value} {rs:Array ResultVar} (hs:fn.results=rs) (hR:R (.returned v) w) (hr:(rsA rs a.tmps).run P w=.ok v w:=by first | (simp [rsA,go_sem, *];done) | (simp [rsA,go_sem, *];first | rfl | (and_intros <;> rfl))) (hd:a.defers=[]:=by rfl):bodyPost P fn R .ret a w:=⟨hd,v,by subst hs;exact hr,hR⟩
theorem Km {P:Program} {f:FuncId} {args:Array Value} {w:World} {x:Ending} {R:Ending→World→Prop} (h:Calls P f args w fun e w'=>e=x∧RowKit.Below w.heap.size w w') (k:∀ w',RowKit.Below w.heap.size w w'→R x w'):Calls P f args w R:=h.mono fun _ _ ⟨e,hb⟩=>e ▸ k _ hb
theorem G_ {P:Program} {f:FuncId} {args:Array Value} {w:World} {x:Ending} {R:Ending→World→Prop} (h:RowKit.Hid (∀ w,Calls P f args w fun e w'=>e=x∧RowKit.Below w.heap.size w w')) (k:∀ w',RowKit.Below w.heap.size w w'→R x w'):Calls P f args w R:=Km (h.out _) k
theorem Kw {P:Program} {f:FuncId} {args:Array Value} {w:World} {x:Ending} {R:Ending→World→Prop} (h:Calls P f args w fun e w'=>e=x∧w=w') (k:R x w):Calls P f args w R:=h.mono fun _ _ ⟨e,hb⟩=>e ▸ hb ▸ k
instance {a w w':World}:HAdd (PLift (RowKit.Below a.heap.size a w)) (PLift (RowKit.Below w.heap.size w w')) (PLift (RowKit.Below a.heap.size a w')):=⟨fun x h=>⟨x.down.trans (h.down.mono x.down.size)⟩⟩
abbrev KK (A H B:Prop):=HAdd (PLift A) (PLift H) (PLift B)
theorem LL {A H B:Prop} [KK A H B] (h:H) (a:A):B:=(PLift.up a+PLift.up h).down
theorem Kt {H A0 B0 A1 B1:Prop} [KK A0 H B0] [KK A1 H B1] (h:H) (a0:A0) (a1:A1):B0∧B1:=⟨LL h a0,LL h a1⟩
theorem Ky {H A0 B0 A1 B1 A2 B2:Prop} [KK A0 H B0] [KK A1 H B1] [KK A2 H B2] (h:H) (a0:A0) (a1:A1) (a2:A2):B0∧B1∧B2:=⟨LL h a0,LL h a1,LL h a2⟩
theorem Kl {H A0 B0 A1 B1 A2 B2 A3 B3:Prop} [KK A0 H B0] [KK A1 H B1] [KK A2 H B2] [KK A3 H B3] (h:H) (a0:A0) (a1:A1) (a2:A2) (a3:A3):B0∧B1∧B2∧B3:=⟨LL h a0,LL h a1,LL h a2,LL h a3⟩
theorem Lp {H A0 B0 A1 B1 A2 B2 A3 B3 A4 B4:Prop} [KK A0 H B0] [KK A1 H B1] [KK A2 H B2] [KK A3 H B3] [KK A4 H B4] (h:H) (a0:A0) (a1:A1) (a2:A2) (a3:A3) (a4:A4):B0∧B1∧B2∧B3∧B4:=⟨LL h a0,LL h a1,LL h a2,LL h a3,LL h a4⟩
theorem Ps {H A0 B0 A1 B1 A2 B2 A3 B3 A4 B4 A5 B5:Prop} [KK A0 H B0] [KK A1 H B1] [KK A2 H B2] [KK A3 H B3] [KK A4 H B4] [KK A5 H B5] (h:H) (a0:A0) (a1:A1) (a2:A2) (a3:A3) (a4:A4) (a5:A5):B0∧B1∧B2∧B3∧B4∧B5:=⟨LL h a0,LL h a1,LL h a2,LL h a3,LL h a4,LL h a5⟩
theorem Qs {H A0 B0 A1 B1 A2 B2 A3 B3 A4 B4 A5 B5 A6 B6:Prop} [KK A0 H B0] [KK A1 H B1] [KK A2 H B2] [KK A3 H B3] [KK A4 H B4] [KK A5 H B5] [KK A6 H B6] (h:H) (a0:A0) (a1:A1) (a2:A2) (a3:A3) (a4:A4) (a5:A5) (a6:A6):B0∧B1∧B2∧B3∧B4∧B5∧B6:=⟨LL h a0,LL h a1,LL h a2,LL h a3,LL h a4,LL h a5,LL h a6⟩
theorem kp8 {H A0 B0 A1 B1 A2 B2 A3 B3 A4 B4 A5 B5 A6 B6 A7 B7:Prop} [KK A0 H B0] [KK A1 H B1] [KK A2 H B2] [KK A3 H B3] [KK A4 H B4] [KK A5 H B5] [KK A6 H B6] [KK A7 H B7] (h:H) (a0:A0) (a1:A1) (a2:A2) (a3:A3) (a4:A4) (a5:A5) (a6:A6) (a7:A7):B0∧B1∧B2∧B3∧B4∧B5∧B6∧B7:=⟨LL h a0,LL h a1,LL h a2,LL h a3,LL h a4,LL h a5,LL h a6,LL h a7⟩
theorem kp9 {H A0 B0 A1 B1 A2 B2 A3 B3 A4 B4 A5 B5 A6 B6 A7 B7 A8 B8:Prop} [KK A0 H B0] [KK A1 H B1] [KK A2 H B2] [KK A3 H B3] [KK A4 H B4] [KK A5 H B5] [KK A6 H B6] [KK A7 H B7] [KK A8 H B8] (h:H) (a0:A0) (a1:A1) (a2:A2) (a3:A3) (a4:A4) (a5:A5) (a6:A6) (a7:A7) (a8:A8):B0∧B1∧B2∧B3∧B4∧B5∧B6∧B7∧B8:=⟨LL h a0,LL h a1,LL h a2,LL h a3,LL h a4,LL h a5,LL h a6,LL h a7,LL h a8⟩
theorem kp10 {H A0 B0 A1 B1 A2 B2 A3 B3 A4 B4 A5 B5 A6 B6 A7 B7 A8 B8 A9 B9:Prop} [KK A0 H B0] [KK A1 H B1] [KK A2 H B2] [KK A3 H B3] [KK A4 H B4] [KK A5 H B5] [KK A6 H B6] [KK A7 H B7] [KK A8 H B8] [KK A9 H B9] (h:H) (a0:A0) (a1:A1) (a2:A2) (a3:A3) (a4:A4) (a5:A5) (a6:A6) (a7:A7) (a8:A8) (a9:A9):B0∧B1∧B2∧B3∧B4∧B5∧B6∧B7∧B8∧B9:=⟨LL h a0,LL h a1,LL h a2,LL h a3,LL h a4,LL h a5,LL h a6,LL h a7,LL h a8,LL h a9⟩
theorem ω {p:Prop} (h:p:=by (omega)):p:=h
theorem δ {p:Prop} (h:p:=by (decide)):p:=h
theorem ψ {p:Prop} (h:p:=by (assumption)):p:=h
theorem κ {p:Prop} (h:p:=by (kernel_rfl)):p:=h
theorem σ {p:Prop} (h:p:=by (simp)):p:=h
theorem γ {p:Prop} (h:p:=by (go_simp)):p:=h
theorem τ {p:Prop} (h:p:=by (go_simp;exact ⟨rfl,rfl⟩)):p:=h
theorem ν {p:Prop} (h:p:=by (first | rfl | omega | (refine congrArg _ ?_;omega) | (simp;omega))):p:=h
theorem φ {p:Prop} (h:p:=by (grind)):p:=h
theorem ξ {p:Prop} (h:p:=by (intro h1;first | omega | (rcases hs with h | h <;> omega))):p:=h
instance:CoeOut World Nat:=⟨fun w=>w.heap.size⟩
abbrev cB (f:FuncId) (a:Array Value) (w:World) (v:Value):Prop:=Calls Tryz.prog f a w fun e w'=>e=.returned v∧RowKit.Below w.heap.size w w'
abbrev cP (f:FuncId) (a:Array Value) (w:World) (v:Value):Prop:=Calls Tryz.prog f a w fun e w'=>e=.returned v∧w=w'
theorem KO {p : Prop} (h : p) : RowKit.Hid p := Lib.hid h
theorem KQ (w : World) (o : Obj) : (w.alloc o).heap.size = w.heap.size + 1 := World.size_alloc w o
theorem KR {B : Nat} {a w : World} (h : RowKit.Below B a w) {p : Addr} (hp : B ≤ p.block) (u : Value) : RowKit.Below B a (w.setCell p u) := RowKit.Below.setCell h hp u
theorem KS (B : Nat) (w : World) : RowKit.Below B w w := RowKit.Below.refl B w
theorem KT (n : Nat) : n ≤ n := Nat.le_refl n
theorem Pf {B : Nat} {a w : World} (h : RowKit.Below B a w) {k : Nat} {x y : Value} (hk : B ≤ k := by omega) : RowKit.Below B a ((w.setCell ⟨k, 0, none⟩ x).setCell ⟨k, 1, none⟩ y) := RowKit.Below.setCell (RowKit.Below.setCell h hk _) hk _
theorem MN {B : Nat} {a w : World} (h : RowKit.Below B a w) {k : Nat} {x y z : Value} (hk : B ≤ k := by omega) : RowKit.Below B a (((w.setCell ⟨k, 0, none⟩ x).setCell ⟨k, 1, none⟩ y).setCell ⟨k, 2, none⟩ z) := RowKit.Below.setCell (RowKit.Below.setCell (RowKit.Below.setCell h hk _) hk _) hk _
theorem Lv {B : Nat} {a w : World} (h : RowKit.Below B a w) {k : Nat} {x y z u : Value} (hk : B ≤ k := by omega) : RowKit.Below B a ((((w.setCell ⟨k, 0, none⟩ x).setCell ⟨k, 1, none⟩ y).setCell ⟨k, 2, none⟩ z).setCell ⟨k, 3, none⟩ u) := RowKit.Below.setCell (RowKit.Below.setCell (RowKit.Below.setCell (RowKit.Below.setCell h hk _) hk _) hk _) hk _
theorem p_ {a b c : World} (h : RowKit.Below a.heap.size a b) (k : RowKit.Below b.heap.size b c) : RowKit.Below a.heap.size a c := h.trans (k.mono h.size)
namespace M
def pick (ok:Bool) (x:Int):Int:=if ok then x else 0
theorem fH (x:Int):pick true x=x:=rfl
theorem kM (x:Int):pick false x=0:=rfl
def ins (n lo hi:Int):Bool:=decide (lo<=n/\n<=hi)
theorem iB {n lo hi:Int}:ins n lo hi=true ↔ lo<=n/\n<=hi:=by simp [ins]
theorem jR {n lo hi:Int} (h:ins n lo hi=true):lo<=n/\n<=hi:=iB.1 h
theorem aH {x y m n:Int} (h1:-m<=x:=by omega) (h2:x<=m:=by omega) (h3:-n<=y:=by omega) (h4:y<=n:=by omega):-(m*n)<=x*y/\x*y<=m*n:=by
 have a1:0<=(m - x)*(n - y):=Int.mul_nonneg ω ω;have a2:0<=(m+x)*(n+y):=Int.mul_nonneg ω ω;have a3:0<=(m - x)*(n+y):=Int.mul_nonneg ω ω;have a4:0<=(m+x)*(n - y):=Int.mul_nonneg ω ω;simp only [Int.sub_mul,Int.mul_sub,Int.add_mul,Int.mul_add] at a1 a2 a3 a4
 constructor <;> omega
theorem tr {x y m n:Int} (h1:0<=x) (h2:x<=m) (h3:0<=y) (h4:y<=n):0<=x*y/\x*y<=m*n:=
 ⟨Int.mul_nonneg h1 h3,(aH (m:=m) (n:=n) ω h2 ω h4).2⟩
def jf (n:Int):Prop:=2<=n/\∀ d:Int,2<=d->d*d<=n->¬ n % d=0
open Classical in
noncomputable def prime (n:Int):Bool:=decide (jf n)
theorem oH {n:Int}:prime n=true ↔ jf n:=by simp [prime]
theorem BP {n:Int}:prime n=false ↔ ¬ jf n:=by simp [prime]
theorem KI {k m:Int} (hm:0<=m) (h:k*k<m*m):k<m:=by
 rcases Int.lt_or_le k m with q | q
 ·exact q
 have:m*m<=k*k:=Int.mul_le_mul q q ω ω;omega
def CH (n r:Int):Prop:=0<=r/\r*r<=n/\n<(r+1)*(r+1)
theorem CH.uniq {n r s:Int} (h:CH n r) (k:CH n s):r=s:=by
 obtain ⟨a,b,c⟩:=h;obtain ⟨d,e,f⟩:=k
 rcases Int.lt_trichotomy r s with q | q | q
 ·have:(r+1)*(r+1)<=s*s:=Int.mul_le_mul ω ω ω ω
  omega
 ·exact q
 have:(s+1)*(s+1)<=r*r:=Int.mul_le_mul ω ω ω ω;omega
theorem zh (n:Nat):∃ r:Nat,r*r<=n/\n<(r+1)*(r+1):=by
 induction n with
 | zero=>exact ⟨0,ω,ω⟩
 | succ n ih=>
 obtain ⟨r,h1,h2⟩:=ih
 rcases Nat.lt_or_ge (n+1) ((r+1)*(r+1)) with q | q
 ·exact ⟨r,ω,q⟩
 refine ⟨r+1,q,?_⟩
 have:(r+1+1)*(r+1+1)=(r+1)*(r+1)+2*r+3:=by simp only [Nat.add_mul,Nat.mul_add];omega
 omega
open Classical in
noncomputable def root (n:Int):Int:=if h:0<=n then ((zh n.toNat).choose:Int) else 0
theorem iU {n:Int} (h:0<=n):CH n (root n):=by
 obtain ⟨a,b⟩:=(zh n.toNat).choose_spec;unfold root;rw [dif_pos h];refine ⟨ω,?_,?_⟩
 ·have:=Int.ofNat_le.2 a;push_cast at this;omega
 have:=Int.ofNat_lt.2 b;push_cast at this;omega
theorem pS {n r:Int} (h:CH n r):r=root n:=by
 have:0<=r*r:=Int.mul_nonneg h.1 h.1;exact h.uniq (iU (by have:=h.2.1;omega))
def val (a b x:Int):Int:=x*x*x+a*x+b
def aN (a b:Int):Int:=4*a*a*a+27*b*b
def bK (a b:Int):Bool:=ins a (-1000) 1000 && ins b (-10000) 10000
def good (a b:Int):Bool:=bK a b && (aN a b != 0)
theorem ag {a b:Int} (h:bK a b=true):-1000<=a/\a<=1000/\-10000<=b/\b<=10000:=by
 simp only [bK,Bool.and_eq_true,iB] at h;omega
theorem ae {a b:Int} (h:good a b=true):bK a b=true:=by
 simp only [good,Bool.and_eq_true] at h;exact h.1
theorem Am {a b:Int} (h:good a b=true):aN a b≠0:=by
 simp only [good,Bool.and_eq_true,bne_iff_ne] at h;exact h.2
def upto (lo:Int) (k:Nat):List Int:=(List.range k).map fun i:Nat=>lo+(i:Int)
theorem sn (lo:Int) (k:Nat):upto lo (k+1)=upto lo k ++ [lo+(k:Int)]:=by
 simp [upto,List.range_succ]
def sel (p:Int->Bool) (lo:Int) (k:Nat):List Int:=(upto lo k).filter p
theorem Gg {p:Int->Bool} {lo:Int} {k:Nat} (h:p (lo+k)=true):sel p lo (k+1)=sel p lo k ++ [lo+(k:Int)]:=by
 simp [sel,sn,h]
theorem EZ {p:Int->Bool} {lo:Int} {k:Nat} (h:p (lo+k)=false):sel p lo (k+1)=sel p lo k:=by
 simp [sel,sn,h]
theorem ti {a p:Int} (hp:1<=p):0<=a % p/\a % p<p:=⟨Int.emod_nonneg _ ω,Int.emod_lt_of_pos _ ω⟩
def rhs (a b p x:Int):Int:=val a b x % p
def gcd (a b:Int):Int:=Int.gcd a b
theorem qS (a b:Int):Int.gcd b (a.tmod b)=Int.gcd a b:=by
 rw [Int.gcd_comm a b];simp only [Int.gcd,Int.natAbs_tmod];exact (Nat.gcd_rec b.natAbs a.natAbs ▸ Nat.gcd_comm _ _)
end M
end
section
open M
namespace M
inductive r_ where
 | O:r_
 | fin (x y:Rat):r_
namespace r_
def On (a b:Rat):r_->Prop
 | O=>True
 | .fin x y=>y*y=x*x*x+a*x+b
def neg:r_->r_
 | O=>O
 | .fin x y=>.fin x (-y)
def Slp (a x1 y1 x2 y2 l:Rat):Prop:=y1 - y2=l*(x1 - x2)/\l*(y1+y2)=x1*x1+x1*x2+x2*x2+a
def lam (a x1 y1 x2 y2:Rat):Rat:=if x1=x2 then (3*x1*x1+a) / (2*y1) else (y1 - y2) / (x1 - x2)
def thd (x1 y1 x2 l:Rat):r_:=.fin (l*l - x1 - x2) (l*(x1 - (l*l - x1 - x2)) - y1)
def add (a:Rat):r_->r_->r_
 | O,Q=>Q
 | .fin x y,O=>.fin x y
 | .fin x1 y1,.fin x2 y2=>if x1=x2/\y1=-y2 then O else thd x1 y1 x2 (lam a x1 y1 x2 y2)
theorem JV (a:Rat) (P:r_):add a O P=P:=rfl
theorem oZ (a:Rat) (P:r_):add a P O=P:=by cases P <;> rfl
theorem iE {a b x1 y1 x2 y2:Rat} (h1:On a b (.fin x1 y1)) (h2:On a b (.fin x2 y2)) (h:¬ (x1=x2/\y1=-y2)):Slp a x1 y1 x2 y2 (lam a x1 y1 x2 y2):=by
 unfold On at h1 h2;unfold Slp lam
 split
 ·rename_i hx
  subst hx
  have h3:(y1 - y2)*(y1+y2)=0:=φ
  have h4:y1=y2:=by
   rcases Rat.mul_eq_zero.1 h3 with h4 | h4
   ·grind
   exact absurd ⟨rfl,φ⟩ h
  subst h4
  have h5:y1≠0:=fun h0=>h ⟨rfl,φ⟩
  constructor
  ·grind
  grind
 rename_i hx
 have h5:x1 - x2≠0:=φ
 constructor
 ·grind
 grind
theorem AB {a b x1 y1 x2 y2 l:Rat} (hd:4*a*a*a+27*b*b≠0) (h1:On a b (.fin x1 y1)) (h:Slp a x1 y1 x2 y2 l):¬ (x1=x2/\y1=-y2):=by
 rintro ⟨rfl,hy⟩;unfold On at h1;obtain ⟨e1,e2⟩:=h
 have h0:y1=0:=φ
 have h00:y2=0:=φ
 subst h0 h00
 apply hd
 have e3:a=-3*x1*x1:=φ
 have e4:b=2*x1*x1*x1:=φ
 grind
theorem Eg {a b x1 y1 x2 y2 l l':Rat} (hd:4*a*a*a+27*b*b≠0) (h1:On a b (.fin x1 y1)) (h:Slp a x1 y1 x2 y2 l) (h':Slp a x1 y1 x2 y2 l'):l=l':=by
 have hn:=AB hd h1 h;obtain ⟨e1,e2⟩:=h;obtain ⟨f1,f2⟩:=h'
 by_cases hx:x1=x2
 ·have hy:y1+y2≠0:=fun h0=>hn ⟨hx,φ⟩
  grind
 have:x1 - x2≠0:=φ
 grind
theorem dc {a b x1 y1 x2 y2 l:Rat} (hd:4*a*a*a+27*b*b≠0) (h1:On a b (.fin x1 y1)) (h2:On a b (.fin x2 y2)) (h:Slp a x1 y1 x2 y2 l):add a (.fin x1 y1) (.fin x2 y2)=thd x1 y1 x2 l:=by
 have hn:=AB hd h1 h;have hl:=Eg hd h1 h (iE h1 h2 hn)
 show (if x1=x2/\y1=-y2 then O else thd x1 y1 x2 (lam a x1 y1 x2 y2))=_
 rw [if_neg hn,←hl]
theorem ce {a x1 y1 x2 y2:Rat} (h:x1=x2/\y1=-y2):add a (.fin x1 y1) (.fin x2 y2)=O:=if_pos h
theorem uX {a b x1 y1 x2 y2 l:Rat} (h1:On a b (.fin x1 y1)) (h:Slp a x1 y1 x2 y2 l):On a b (thd x1 y1 x2 l):=by
 unfold thd On at *;obtain ⟨e1,e2⟩:=h
 grind
theorem eS {a b:Rat} (hd:4*a*a*a+27*b*b≠0) {P Q:r_} (h1:On a b P) (h2:On a b Q):On a b (add a P Q):=by
 cases P with
 | O=>exact h2
 | fin x1 y1=>
 cases Q with
 | O=>exact h1
 | fin x2 y2=>
 by_cases hv:x1=x2/\y1=-y2
 ·rw [ce hv];trivial
 have:=iE h1 h2 hv;rw [dc hd h1 h2 this];exact uX h1 this
theorem dD {a b:Rat} {P:r_} (h:On a b P):On a b (neg P):=by
 cases P with
 | O=>trivial
 | fin x y=>unfold neg On at *;grind
theorem neg_neg (P:r_):neg (neg P)=P:=by
 cases P with
 | O=>rfl
 | fin x y=>unfold neg;simp
theorem Slp.symm {a x1 y1 x2 y2 l:Rat} (h:Slp a x1 y1 x2 y2 l):Slp a x2 y2 x1 y1 l:=by
 obtain ⟨e1,e2⟩:=h
 constructor <;> grind
theorem Er {a x1 y1 x2 y2 l:Rat} (h:Slp a x1 y1 x2 y2 l):thd x1 y1 x2 l=thd x2 y2 x1 l:=by
 obtain ⟨e1,e2⟩:=h;unfold thd
 congr 1
 ·grind
 grind
theorem add_comm {a b:Rat} (hd:4*a*a*a+27*b*b≠0) {P Q:r_} (h1:On a b P) (h2:On a b Q):add a P Q=add a Q P:=by
 cases P with
 | O=>exact (oZ a Q).symm
 | fin x1 y1=>
 cases Q with
 | O=>rfl
 | fin x2 y2=>
 by_cases hv:x1=x2/\y1=-y2
 ·rw [ce hv,ce]
  exact ⟨hv.1.symm,φ⟩
 have:=iE h1 h2 hv;rw [dc hd h1 h2 this,dc hd h2 h1 this.symm,Er this]
theorem dw (a:Rat) (P:r_):add a (neg P) P=O:=by
 cases P with
 | O=>rfl
 | fin x y=>exact ce ⟨rfl,rfl⟩
theorem tt {a b:Rat} (hd:4*a*a*a+27*b*b≠0) {P Q:r_} (h1:On a b P) (h2:On a b Q):neg (add a P Q)=add a (neg P) (neg Q):=by
 cases P with
 | O=>rfl
 | fin x1 y1=>
 cases Q with
 | O=>rfl
 | fin x2 y2=>
 by_cases hv:x1=x2/\y1=-y2
 ·rw [ce hv]
  show O=add a (.fin x1 (-y1)) (.fin x2 (-y2))
  rw [ce];exact ⟨hv.1,φ⟩
 have h3:=iE h1 h2 hv
 have h4:Slp a x1 (-y1) x2 (-y2) (-lam a x1 y1 x2 y2):=by
  obtain ⟨e1,e2⟩:=h3
  constructor <;> grind
 rw [dc hd h1 h2 h3]
 show _=add a (.fin x1 (-y1)) (.fin x2 (-y2))
 rw [dc hd (dD h1) (dD h2) h4];unfold thd neg
 congr 1 <;> grind
theorem xG {a b:Rat} (hd:4*a*a*a+27*b*b≠0) {P Q:r_} (h1:On a b P) (h2:On a b Q):add a (neg P) (add a P Q)=Q:=by
 cases P with
 | O=>rfl
 | fin x1 y1=>
 cases Q with
 | O=>exact dw a _
 | fin x2 y2=>
 by_cases hv:x1=x2/\y1=-y2
 ·rw [ce hv]
  show r_.fin x1 (-y1)=r_.fin x2 y2
  rw [hv.1,hv.2]
  congr 1
  grind
 have h3:=iE h1 h2 hv;generalize lam a x1 y1 x2 y2=l at h3;rw [dc hd h1 h2 h3];have h5:=uX h1 h3
 have h4:Slp a x1 (-y1) (l*l - x1 - x2) (l*(x1 - (l*l - x1 - x2)) - y1) (-l):=by
  obtain ⟨e1,e2⟩:=h3;unfold On at *
  constructor
  ·grind
  grind
 show add a (.fin x1 (-y1)) (.fin _ _)=_
 rw [dc hd (dD h1) h5 h4];obtain ⟨e1,e2⟩:=h3;unfold thd
 congr 1 <;> grind
theorem CU {a x1 y1 x y x3 y3 l m:Rat} (hl:Slp a x1 y1 x y l) (hm:Slp a x y x3 y3 m) (hne:l≠m) :
  ∃ n r,Slp a (l*l - x1 - x) (l*(x1 - (l*l - x1 - x)) - y1) x3 y3 n/\Slp a x1 y1 (m*m - x - x3) (m*(x - (m*m - x - x3)) - y) r/\
   thd (l*l - x1 - x) (l*(x1 - (l*l - x1 - x)) - y1) x3 n=thd x1 y1 (m*m - x - x3) r:=by
 have hd:l - m≠0:=φ
 obtain ⟨w,hw⟩:∃ w,w*(l - m)=x3 - x1:=⟨(x3 - x1) / (l - m),φ⟩
 obtain ⟨e1,e2⟩:=hl;obtain ⟨f1,f2⟩:=hm
 have k1:2*y*(l - m)=(x3 - x)*(m*m - x1 - x - x3) - (x1 - x)*(l*l - x1 - x - x3):=φ
 have k2:2*y+(l+m)*(x3 - x)=w*(l*l - x1 - x - x3):=by
  have:(l - m)*(2*y+(l+m)*(x3 - x))=(l - m)*(w*(l*l - x1 - x - x3)):=φ
  grind
 have k3:2*y+(l+m)*(x1 - x)=w*(m*m - x1 - x - x3):=by
  have:(l - m)*(2*y+(l+m)*(x1 - x))=(l - m)*(w*(m*m - x1 - x - x3)):=φ
  grind
 refine ⟨-l - w,-m - w,⟨?_,?_⟩,⟨?_,?_⟩,?_⟩
 ·grind
 ·grind
 ·grind
 ·grind
 unfold thd
 congr 1
 ·grind
 grind
theorem add_assoc {a b:Rat} (hd:4*a*a*a+27*b*b≠0) {P Q R:r_} (h1:On a b P) (h2:On a b Q) (h3:On a b R):add a (add a P Q) R=add a P (add a Q R):=by
 cases P with
 | O=>rfl
 | fin x1 y1=>
 cases Q with
 | O=>rfl
 | fin x y=>
 cases R with
 | O=>rw [oZ,oZ]
 | fin x3 y3=>
 by_cases v1:x1=x/\y1=-y
 ·rw [ce v1]
  have:=xG hd h2 h3;rw [show r_.fin x1 y1=neg (.fin x y) by rw [v1.1,v1.2];rfl,this];rfl
 by_cases v2:x=x3/\y=-y3
 ·rw [ce v2,oZ,add_comm hd (eS hd h1 h2) h3,add_comm hd h1 h2]
  have:=xG hd h2 h1;rw [show r_.fin x3 y3=neg (.fin x y) by rw [v2.1,v2.2];unfold neg;simp,this]
 have hl:=iE h1 h2 v1;have hm:=iE h2 h3 v2;generalize lam a x1 y1 x y=l at hl;generalize lam a x y x3 y3=m at hm;rw [dc hd h1 h2 hl,dc hd h2 h3 hm];have hS:=uX h1 hl;have hT:=uX h2 hm
 by_cases hlm:l=m
 ·subst hlm
  obtain ⟨e1,e2⟩:=id hl;obtain ⟨f1,f2⟩:=id hm
  have k:(x3 - x1)*(l*l - x1 - x - x3)=0:=φ
  rcases Rat.mul_eq_zero.1 k with k | k
  ·obtain rfl:x3=x1:=φ
   obtain rfl:y3=y1:=φ
   rw [←dc hd h1 h2 hl,←dc hd h2 h3 hm,add_comm hd (eS hd h1 h2) h1,add_comm hd h1 h2]
  show add a (.fin _ _) (.fin _ _)=add a (.fin _ _) (.fin _ _)
  rw [ce ⟨φ,φ⟩,ce ⟨φ,φ⟩]
 obtain ⟨n,r,e1,e2,e3⟩:=CU hl hm hlm
 show add a (.fin _ _) (.fin _ _)=add a (.fin _ _) (.fin _ _)
 rw [dc hd hS h3 e1,dc hd h1 hT e2,e3]
end r_
end M
namespace Wh
def val:List Int->Int
 | []=>0
 | x :: l=>x+10000*val l
def a_ (n:Nat):List Int:=if h:n=0 then [] else ((n % 10000:Nat):Int) :: a_ (n / 10000)
termination_by n
decreasing_by exact Nat.div_lt_self (Nat.pos_of_ne_zero h) δ
def lim (x:Int):Prop:=0<=x/\x<10000
def bR (l:List Int):Prop:=∀ x ∈ l,lim x
theorem dk:a_ 0=[]:=by rw [a_];rfl
theorem kc {n:Nat} (h:n≠0):a_ n=((n % 10000:Nat):Int) :: a_ (n / 10000):=by rw [a_,dif_neg h]
theorem bS (n:Nat):val (a_ n)=n:=by
 induction n using Nat.strongRecOn with
 | ind n ih=>
 by_cases h:n=0
 ·subst h;rw [dk];rfl
 rw [kc h]
 show ((n % 10000:Nat):Int)+10000*val (a_ (n / 10000))=n
 rw [ih _ (Nat.div_lt_self (Nat.pos_of_ne_zero h) δ)];omega
theorem bG (n:Nat):bR (a_ n):=by
 induction n using Nat.strongRecOn with
 | ind n ih=>
 by_cases h:n=0
 ·subst h;rw [dk];intro x hx;cases hx
 rw [kc h];intro x hx
 rcases List.mem_cons.1 hx with rfl | hx
 ·unfold lim;omega
 exact ih _ (Nat.div_lt_self (Nat.pos_of_ne_zero h) δ) x hx
theorem kZ {n:Nat}:a_ n=[] ↔ n=0:=by
 constructor
 ·intro h
  by_cases h0:n=0
  ·exact h0
  rw [kc h0] at h;cases h
 rintro rfl;exact dk
theorem vB {x v:Nat} (hx:x<10000) (h:x≠0∨v≠0):a_ (x+10000*v)=(x:Int) :: a_ v:=by
 rw [kc ω,show (x+10000*v) % 10000=x by omega,show (x+10000*v) / 10000=v by omega]
def trim:List Int->List Int
 | []=>[]
 | x :: l=>match trim l with
  | []=>if x=0 then [] else [x]
  | y :: t=>x :: y :: t
theorem du:∀ {l:List Int},bR l->0<=val l
 | [],_=>Int.le_refl _
 | x :: l,h=>by
  have h1:=du (l:=l) fun y hy=>h y (List.mem_cons_of_mem _ hy)
  have h2:=(h x List.mem_cons_self).1
  show 0<=x+10000*val l
  omega
theorem pW:∀ {l:List Int},bR l->trim l=a_ (val l).toNat
 | [],_=>by show []=a_ (0:Int).toNat;rw [show (0:Int).toNat=0 from rfl,dk]
 | x :: l,h=>by
  have hl:bR l:=fun y hy=>h y (List.mem_cons_of_mem _ hy)
  have ih:=pW hl;have hx:=h x List.mem_cons_self;have hv:=du hl
  obtain ⟨v,hv'⟩:∃ v:Nat,val l=v:=⟨(val l).toNat,ω⟩
  obtain ⟨y,rfl⟩:∃ y:Nat,x=y:=⟨x.toNat,by have:=hx.1;omega⟩
  rw [hv',Int.toNat_natCast] at ih
  have hy:y<10000:=by have:=hx.2;omega
  show (match trim l with
   | []=>if (y:Int)=0 then [] else [(y:Int)]
   | z :: t=>(y:Int) :: z :: t)=a_ ((y:Int)+10000*val l).toNat
  rw [ih,hv',show ((y:Int)+10000*(v:Int)).toNat=y+10000*v by omega]
  by_cases h0:v=0
  ·subst h0
   rw [dk]
   by_cases hy0:y=0
   ·subst hy0
    rw [Nat.mul_zero,dk];rfl
   rw [vB hy (Or.inl hy0),dk,if_neg ω]
  rw [vB hy (Or.inr h0),kc h0]
theorem oW:∀ l:List Int,trim (l ++ [0])=trim l
 | []=>rfl
 | x :: l=>by
  show (match trim (l ++ [0]) with
   | []=>if x=0 then [] else [x]
   | z :: t=>x :: z :: t)=_
  rw [oW l];rfl
theorem si:∀ (l:List Int) {x:Int},x≠0->trim (l ++ [x])=l ++ [x]
 | [],x,h=>by show (if x=0 then [] else [x])=_;rw [if_neg h];rfl
 | y :: l,x,h=>by
  show (match trim (l ++ [x]) with
   | []=>if y=0 then [] else [y]
   | z :: t=>y :: z :: t)=_
  rw [si l h]
  cases l <;> rfl
theorem C8 (n:Nat):trim (a_ n)=a_ n:=by rw [pW (bG n),bS,Int.toNat_natCast]
theorem jQ:∀ a b:List Int,val (a ++ b)=val a+10000 ^ a.length*val b
 | [],b=>by show val b=0+10000 ^ 0*val b;rw [Int.pow_zero];omega
 | x :: a,b=>by
  show x+10000*val (a ++ b)=x+10000*val a+10000 ^ (a.length+1)*val b
  rw [jQ a b,Int.pow_succ]
  grind
theorem pow_pos (n:Nat):(0:Int)<10000 ^ n:=Int.pow_pos δ
theorem iI:∀ {l:List Int},bR l->val l<10000 ^ l.length
 | [],_=>by show (0:Int)<10000 ^ 0;rw [Int.pow_zero];decide
 | x :: l,h=>by
  have h1:=iI (l:=l) fun y hy=>h y (List.mem_cons_of_mem _ hy)
  have h2:=(h x List.mem_cons_self).2
  show x+10000*val l<10000 ^ (l.length+1)
  rw [Int.pow_succ];omega
theorem dO {a b:List Int} (h:bR a) (h':bR b):bR (a ++ b):=fun x hx=>by
 rcases List.mem_append.1 hx with q | q
 ·exact h x q
 exact h' x q
theorem iQ {a:List Int} (h:bR a) (k:Nat):bR (a.take k):=fun x hx=>h x (List.mem_of_mem_take hx)
theorem ng {a:List Int} (h:bR a) (k:Nat):bR (a.drop k):=fun x hx=>h x (List.mem_of_mem_drop hx)
theorem cY {l:List Int} {k:Nat} {x:Int} (hx:l[k]?=some x):val (l.take (k+1))=val (l.take k)+10000 ^ k*x:=by
 have hk:=(List.getElem?_eq_some_iff.1 hx).1;rw [List.take_add_one,hx,jQ,List.length_take,Nat.min_eq_left (Nat.le_of_lt hk)]
 show _+_*(x+10000*0)=_
 grind
theorem rJ {l:List Int} {k:Nat} {x:Int} (hx:l[k]?=some x):val (l.drop k)=x+10000*val (l.drop (k+1)):=by
 obtain ⟨h1,rfl⟩:=List.getElem?_eq_some_iff.1 hx;rw [List.drop_eq_getElem_cons h1];rfl
theorem eV {n k:Nat} (h:n<10000 ^ k):(a_ n).length<=k:=by
 induction k generalizing n with
 | zero=>rw [Nat.pow_zero] at h;rw [show n=0 by omega,dk];exact KT _
 | succ k ih=>
 by_cases h0:n=0
 ·subst h0;rw [dk];exact Nat.zero_le _
 rw [kc h0,List.length_cons]
 have:n / 10000<10000 ^ k:=by
  rw [Nat.pow_succ] at h;exact Nat.div_lt_of_lt_mul (by rwa [Nat.mul_comm])
 have:=ih this;omega
def nth (l:List Int) (i:Nat):Int:=(l[i]?).getD 0
theorem dp {l:List Int} {i:Nat} {x:Int} (h:l[i]?=some x):nth l i=x:=by unfold nth;rw [h];rfl
theorem dn {l:List Int} {i:Nat} (h:l.length<=i):nth l i=0:=by unfold nth;rw [List.getElem?_eq_none h];rfl
theorem cQ (l:List Int) (k:Nat):val (l.take (k+1))=val (l.take k)+10000 ^ k*nth l k:=by
 by_cases h:k<l.length
 ·have hx:l[k]?=some l[k]:=List.getElem?_eq_getElem h
  rw [cY hx,dp hx]
 rw [dn ω,List.take_of_length_le ω,List.take_of_length_le ω]
 grind
theorem pP {l:List Int} (h:bR l) (i:Nat):lim (nth l i):=by
 unfold nth
 cases hx:l[i]? with
 | none=>exact ⟨Int.le_refl _,δ⟩
 | some x=>exact h x (List.mem_of_getElem? hx)
end Wh
end
section
open M Wh
theorem Np {p:Prop} (h:p:=by rw [List.length_take];omega):p:=h
theorem Zo {p:Prop} (h:p:=by
 rw [List.take_add_one,hsk,htk]
 refine dO h.ls fun z hz=>?_
 simp only [Option.toList_some,List.mem_singleton] at hz;subst hz;unfold lim;omega):p:=h
theorem Zq {p:Prop} (h:p:=by
 by_cases h0:c=0
 ·subst h0;rw [Int.mul_zero] at e;omega
 have:=Int.mul_le_mul_of_nonneg_left (show 1<=c by omega) (Int.le_of_lt hp);omega):p:=h
namespace Wh
structure ic (a b:List Int) (s:Int) (i:Nat) (o:List Int) (c:Int):Prop where
 eq:val o+10000 ^ i*c=val (a.take i)+s*val (b.take i)
 len:o.length=i
 ls:bR o
 c1:s=1->0<=c/\c<=1
 c2:s=-1->-1<=c/\c<=0
theorem ic.start (a b:List Int) (s:Int):ic a b s 0 [] 0 where
 eq:=by simp [val]
 len:=rfl
 ls:=fun x hx=>by cases hx
 c1:=fun _=>ω
 c2:=fun _=>ω
theorem wZ (o:List Int) (x:Int):val (o ++ [x])=val o+10000 ^ o.length*x:=by
 rw [jQ]
 show _+_*(x+10000*0)=_
 grind
theorem ic.step {a b o:List Int} {s c:Int} {i:Nat} (h:ic a b s i o c) {x c':Int} (hx:lim x) (he:x+10000*c'=nth a i+s*nth b i+c) (h1:s=1->0<=c'/\c'<=1) (h2:s=-1->-1<=c'/\c'<=0):ic a b s (i+1) (o ++ [x]) c' where
 eq:=by
  rw [wZ,h.len,cQ,cQ,Int.pow_succ];have:=h.eq
  grind
 len:=by rw [List.length_append,h.len];rfl
 ls:=dO h.ls fun y hy=>by rw [List.mem_singleton] at hy;subst hy;exact hx
 c1:=h1
 c2:=h2
theorem ic.rng {a b o:List Int} {s c:Int} {i:Nat} (h:ic a b s i o c) (hs:s=1∨s=-1) (ha:bR a) (hb:bR b):-10000<=nth a i+s*nth b i+c/\nth a i+s*nth b i+c<=19999/\(s=1->0<=nth a i+s*nth b i+c)/\(s=-1->nth a i+s*nth b i+c<=9999)/\-1<=c/\c<=1:=by
 have h1:=pP ha i;have h2:=pP hb i;unfold lim at h1 h2
 rcases hs with rfl | rfl
 ·have:=h.c1 rfl
  refine ⟨?_,?_,fun _=>?_,fun h=>absurd h δ,?_,?_⟩ <;> omega
 have:=h.c2 rfl;refine ⟨?_,?_,fun h=>absurd h δ,fun _=>?_,?_,?_⟩ <;> omega
theorem ic.all {a b o:List Int} {s c:Int} {i:Nat} (h:ic a b s i o c) (ha:a.length<=i) (hb:b.length<=i):val o+10000 ^ i*c=val a+s*val b:=by
 have:=h.eq
 rwa [List.take_of_length_le ha,List.take_of_length_le hb] at this
theorem ic.fin {a b o:List Int} {s c:Int} {i:Nat} (h:ic a b s i o c) (hs:s=1∨s=-1) (ha:a.length<=i) (hb:b.length<=i) (h0:0<=val a+s*val b) (h1:val a+s*val b<10000 ^ i):c=0/\val o=val a+s*val b:=by
 have e:=h.all ha hb;have o1:=du h.ls;have o2:=iI h.ls;rw [h.len] at o2;have hp:=pow_pos i
 have hc:-1<=c/\c<=1:=by
  rcases hs with rfl | rfl
  ·have:=h.c1 rfl;omega
  have:=h.c2 rfl;omega
 have:c=0:=by
  have hc':c=-1∨c=0∨c=1:=ω
  rcases hc' with rfl | rfl | rfl
  ·rw [show (10000:Int) ^ i*-1=-(10000 ^ i) by grind] at e;omega
  ·rfl
  rw [Int.mul_one] at e;omega
 subst this;refine ⟨rfl,?_⟩;rw [Int.mul_zero] at e;omega
theorem ic.carry {a b o:List Int} {s c:Int} {i:Nat} (h:ic a b s i o c) (hs:s=1∨s=-1) (ha:a.length<=i) (hb:b.length<=i) (h0:0<=val a+s*val b) (hc:c≠0):c=1:=by
 have e:=h.all ha hb;have o2:=iI h.ls;rw [h.len] at o2
 have hc':c=-1∨c=1:=by
  rcases hs with rfl | rfl
  ·have:=h.c1 rfl;omega
  have:=h.c2 rfl;omega
 rcases hc' with rfl | rfl
 ·rw [show (10000:Int) ^ i*-1=-(10000 ^ i) by grind] at e;omega
 rfl
theorem ny {m n:Nat} (h:m<=n):(10000:Int) ^ m<=10000 ^ n:=by
 obtain ⟨k,rfl⟩:=Nat.le.dest h;rw [Int.pow_add];have h1:=pow_pos m;have h2:=pow_pos k;have:=Int.mul_le_mul_of_nonneg_left (show (1:Int)<=10000 ^ k by omega) (Int.le_of_lt h1);omega
theorem sum_lt {a b:List Int} {s:Int} (hs:s=1∨s=-1) (ha:bR a) (hb:bR b) {n:Nat} (h1:a.length<=n) (h2:b.length<=n):val a+s*val b<10000 ^ (n+1):=by
 have a2:=iI ha;have b1:=du hb;have b2:=iI hb;have p1:=ny h1;have p2:=ny h2;have p:=pow_pos n;rw [Int.pow_succ]
 rcases hs with rfl | rfl <;> omega
structure MInv (o0 o:List Int) (x:Int) (b:List Int) (i k:Nat) (c:Int):Prop where
 len:o.length=o0.length
 eq:val (o.take k)+10000 ^ k*c=val (o0.take k)+10000 ^ i*(x*val (b.take (k - i)))
 rest:o.drop k=o0.drop k
 ls:bR (o.take k)
 c0:0<=c/\c<=9999
theorem MInv.start {o0:List Int} (h:bR o0) (x:Int) (b:List Int) (i:Nat):MInv o0 o0 x b i i 0 where
 len:=rfl
 eq:=by rw [Nat.sub_self];simp [val]
 rest:=rfl
 ls:=iQ h i
 c0:=ω
theorem tp {x y:Int} (hx:lim x) (hy:lim y):0<=x*y/\x*y<=99980001:=by
 have h1:=Int.mul_nonneg hx.1 hy.1;have h2:x*y<=9999*y:=Int.mul_le_mul_of_nonneg_right (by have:=hx.2;omega) hy.1;have:=hy.2;omega
theorem MInv.step {o0 o b:List Int} {x c t:Int} {i k:Nat} (h:MInv o0 o x b i k c) (ho:bR o0) (hx:lim x) (hb:bR b) (hik:i<=k) (ht:o0[k]?=some t) {y:Int} (hy:y=t+c+x*nth b (k - i)):(0<=y/\y<=99999999)/\MInv o0 (o.set k (y % 10000)) x b i (k+1) (y / 10000):=by
 have hk:=(List.getElem?_eq_some_iff.1 ht).1;have htl:lim t:=ho t (List.mem_of_getElem? ht);have hm:=tp hx (pP hb (k - i));have hc:=h.c0;unfold lim at htl
 have hyr:0<=y/\y<=99999999:=ω
 have htk:(o.set k (y % 10000)).take k=o.take k:=by
  rw [List.take_set,List.set_eq_of_length_le Np]
 have hsk:(o.set k (y % 10000))[k]?=some (y % 10000):=by
  rw [List.getElem?_set_self (by rw [h.len];exact hk)]
 refine ⟨hyr,⟨by rw [List.length_set,h.len],?_,?_,?_,ω⟩⟩
 ·rw [cY hsk,htk,cY ht,show k+1 - i=(k - i)+1 by omega,cQ,Int.pow_succ]
  have e:=h.eq
  have hp:(10000:Int) ^ i*10000 ^ (k - i)=10000 ^ k:=by rw [←Int.pow_add,show i+(k - i)=k by omega]
  have hd:10000*(y / 10000)+y % 10000=y:=Int.mul_ediv_add_emod y 10000;subst hy;rw [←hp] at e ⊢;generalize (10000:Int) ^ i=P at *;generalize (10000:Int) ^ (k - i)=Q at *;generalize nth b (k - i)=n3,val (b.take (k - i))=v3,val (o0.take k)=v2,val (o.take k)=v1,(t+c+x*nth b (k - i)) % 10000=r,(t+c+x*nth b (k - i)) / 10000=q at *
  grind
 ·rw [List.drop_set_of_lt (Nat.lt_succ_self k)]
  have:=congrArg (List.drop 1) h.rest
  rwa [List.drop_drop,List.drop_drop] at this
 exact Zo
theorem MInv.bR {o0 o b:List Int} {x c:Int} {i k:Nat} (h:MInv o0 o x b i k c) (ho:bR o0):bR o:=by
 rw [←List.take_append_drop k o,h.rest];exact dO h.ls (ng ho k)
theorem MInv.fin {o0 o b:List Int} {x c:Int} {i n:Nat} (h:MInv o0 o x b i n c) (hn:o0.length=n) (hb:b.length+i<=n) {v:Int} (hv:val o0+10000 ^ i*(x*val b)=v) (hlt:v<10000 ^ n) (ho:Wh.bR o0):val o=v:=by
 have e:=h.eq;have l1:=h.len;rw [List.take_of_length_le ω,List.take_of_length_le ω,List.take_of_length_le ω,hv] at e;have o1:=du (h.bR ho);have hp:=pow_pos n;have hc:=h.c0
 exact Zq
theorem D8 {a b:List Int} {i:Nat} {x o:Int} (hx:a[i]?=some x) (ho:o=val (a.take i)*val b):o+10000 ^ i*(x*val b)=val (a.take (i+1))*val b:=by
 rw [cY hx,ho]
 grind
theorem zV {a b:List Int} (ha:bR a) (hb:bR b) {n:Nat} (h:a.length+b.length<=n):val a*val b<10000 ^ n:=by
 have a1:=du ha;have a2:=iI ha;have b1:=du hb;have b2:=iI hb;have p:=ny h;rw [Int.pow_add] at p;have h1:val a*val b<=val a*10000 ^ b.length:=Int.mul_le_mul_of_nonneg_left (Int.le_of_lt b2) a1;have h2:val a*10000 ^ b.length<10000 ^ a.length*10000 ^ b.length:=Int.mul_lt_mul_of_pos_right a2 (pow_pos _);omega
structure pf (a q:List Int) (n:Int) (i:Nat) (r:Int):Prop where
 len:q.length=a.length
 eq:val (a.drop i)=n*val (q.drop i)+r
 r0:0<=r/\r<n
 ls:bR (q.drop i)
theorem pf.start {a q:List Int} {n:Int} (hn:0<n) (hl:q.length=a.length):pf a q n a.length 0 where
 len:=hl
 eq:=by rw [List.drop_length,←hl,List.drop_length];simp [val]
 r0:=ω
 ls:=by rw [←hl,List.drop_length];intro x hx;cases hx
theorem pf.step {a q:List Int} {n r x:Int} {i:Nat} (h:pf a q n (i+1) r) (ha:bR a) (hx:a[i]?=some x) (hn:n<=1000000000000):(0<=r*10000+x/\r*10000+x<=10000000000000000)/\pf a (q.set i ((r*10000+x) / n)) n i ((r*10000+x) % n):=by
 have hi:=(List.getElem?_eq_some_iff.1 hx).1;have hxl:lim x:=ha x (List.mem_of_getElem? hx);unfold lim at hxl;have hr:=h.r0;have hq:(q.set i ((r*10000+x) / n))[i]?=some ((r*10000+x) / n):=List.getElem?_set_self (by rw [h.len];exact hi);have hd:(q.set i ((r*10000+x) / n)).drop (i+1)=q.drop (i+1):=List.drop_set_of_lt (Nat.lt_succ_self i)
 have hn0:0<n:=ω
 have hq0:0<=(r*10000+x) / n:=Int.ediv_nonneg ω ω;have hq1:(r*10000+x) / n<10000:=Int.ediv_lt_of_lt_mul hn0 ω;refine ⟨ω,⟨by rw [List.length_set,h.len],?_,⟨Int.emod_nonneg _ ω,Int.emod_lt_of_pos _ hn0⟩,?_⟩⟩
 ·rw [rJ hx,rJ hq,hd,h.eq]
  have:=Int.mul_ediv_add_emod (r*10000+x) n;generalize (r*10000+x) % n=z,(r*10000+x) / n=y at *
  grind
 rw [List.drop_eq_getElem_cons (by rw [List.length_set,h.len];exact hi),hd];intro y hy
 rcases List.mem_cons.1 hy with rfl | hy
 ·rw [List.getElem_set_self];exact ⟨hq0,hq1⟩
 exact h.ls y hy
theorem pf.fin {a q:List Int} {n r:Int} (h:pf a q n 0 r):val q=val a / n/\r=val a % n/\bR q:=by
 have e:=h.eq;rw [List.drop_zero,List.drop_zero] at e;have hr:=h.r0;have hl:=h.ls;rw [List.drop_zero] at hl;refine ⟨?_,?_,hl⟩
 ·rw [e,Int.add_comm,Int.add_mul_ediv_left _ _ ω,Int.ediv_eq_zero_of_lt hr.1 hr.2,Int.zero_add]
 rw [e,Int.add_comm,Int.add_mul_emod_self_left,Int.emod_eq_of_lt hr.1 hr.2]
end Wh
theorem VI {p:Prop} (h:p:=by simp only [Lc,Bool.false_eq_true,if_false];omega):p:=h
namespace Wh
def LY (x y:Int):Int:=if x<y then -1 else if y<x then 1 else 0
theorem oM {x y:Int} (h:x<y):LY x y=-1:=if_pos h
theorem uP {x y:Int} (h:y<x):LY x y=1:=by unfold LY;rw [if_neg ω,if_pos h]
theorem JB (x:Int):LY x x=0:=by unfold LY;rw [if_neg ω,if_neg ω]
theorem wg {a:List Int} (ha:bR a) (i:Nat):val (a.take i)<10000 ^ i:=by
 have h1:=iI (iQ ha i);have h2:=ny (m:=(a.take i).length) (n:=i) Np;omega
theorem yL {a b:List Int} (ha:bR a) (hb:bR b) {i:Nat} (hlt:nth a i<nth b i):∀ n,i<n->(∀ j,i<j->j<n->nth a j=nth b j)->val (a.take n)<val (b.take n)
 | 0,h,_=>absurd h (Nat.not_lt_zero _)
 | n+1,h,he=>by
  by_cases hn:i=n
  ·subst hn
   have h1:=wg ha i;have h2:=du (iQ hb i);rw [cQ,cQ];have h3:=Int.mul_le_mul_of_nonneg_left (show nth a i+1<=nth b i by omega) (Int.le_of_lt (pow_pos i));rw [Int.mul_add,Int.mul_one] at h3;omega
  have ih:=yL ha hb hlt n ω fun j h1 h2=>he j h1 ω
  rw [cQ,cQ,he n ω ω];omega
theorem Ev {a b:List Int}:∀ n,(∀ j,j<n->nth a j=nth b j)->val (a.take n)=val (b.take n)
 | 0,_=>by simp [val]
 | n+1,he=>by
  rw [cQ,cQ,he n ω,Ev n fun j h=>he j ω]
theorem iY {a:List Int} {n:Nat} (h:a.length<=n):a.take n=a:=List.take_of_length_le h
theorem Ch {a b:List Int} (ha:bR a) (hb:bR b) {i n:Nat} (h1:a.length<=n) (h2:b.length<=n) (hi:i<n) (he:∀ j,i<j->j<n->nth a j=nth b j) (hlt:nth a i<nth b i):LY (val a) (val b)=-1:=by
 have:=yL ha hb hlt n hi he;rw [iY h1,iY h2] at this;exact oM this
theorem Cg {a b:List Int} (ha:bR a) (hb:bR b) {i n:Nat} (h1:a.length<=n) (h2:b.length<=n) (hi:i<n) (he:∀ j,i<j->j<n->nth a j=nth b j) (hlt:nth b i<nth a i):LY (val a) (val b)=1:=by
 have:=yL hb ha hlt n hi fun j h1 h2=>(he j h1 h2).symm
 rw [iY h1,iY h2] at this;exact uP this
theorem cmp_eq {a b:List Int} {n:Nat} (h1:a.length<=n) (h2:b.length<=n) (he:∀ j,j<n->nth a j=nth b j):LY (val a) (val b)=0:=by
 have:=Ev n he;rw [iY h1,iY h2] at this;rw [this,JB]
theorem gF {m n:Nat} (h:m<=n):(a_ m).length<=(a_ n).length:=by
 refine eV ?_;have h1:=iI (bG n);rw [bS] at h1;have h2:((10000 ^ (a_ n).length:Nat):Int)=(10000:Int) ^ (a_ n).length:=Int.natCast_pow 10000 _;generalize (10000:Int) ^ (a_ n).length=P at *;generalize 10000 ^ (a_ n).length=Q at *;omega
theorem qL {m n:Nat} (h:(a_ m).length<(a_ n).length):m<n:=by
 by_cases h':n<=m
 ·have:=gF h';omega
 omega
def Lc (neg:Bool) (n:Int):Int:=if neg then -n else n
theorem zo {neg:Bool} {n:Int} (h:0<=n):decide (Lc neg n<0)=(neg && decide (n≠0)):=by
 cases neg
 ·simp [Lc];omega
 simp only [Lc,if_true,Bool.true_and,decide_eq_decide];omega
theorem uQ {neg:Bool} {n:Int} (h:0<=n):(Lc neg n).natAbs=n.toNat:=by
 cases neg
 ·exact VI
 simp only [Lc,if_true];omega
theorem wR (z:Int):Lc (decide (z<0)) z.natAbs=z:=by
 unfold Lc
 by_cases h:z<0
 ·rw [if_pos (decide_eq_true h)];omega
 rw [if_neg (by simp [h])];omega
end Wh
end
section
open Go.RowKit open M
theorem rB {a b:Int} (h:a=b):Ending.returned (.int .i64 a)=.returned (.int .i64 b):=by rw [h]
theorem fm {a b:Bool} (h:a=b):Ending.returned (.bool a)=.returned (.bool b):=by rw [h]
theorem eW (n lo hi:Int) (w:World) :
  cP 70 #[n,lo,hi] w (M.ins n lo hi):=by
 unfold M.ins
 by_cases h1:lo<=n <;> by_cases h2:n<=hi <;>
 (go_enter func70,ntmps70
  go_wp2
  go_ret;exact ⟨by simp [h1,h2],rfl⟩)
theorem dW (n lo hi:Int) (w:World) :
  cP 62 #[n,lo,hi] w (M.ins n lo hi):=by
 unfold M.ins
 by_cases h1:lo<=n <;> by_cases h2:n<=hi <;>
 (go_enter func62,ntmps62
  go_wp2
  go_ret;exact ⟨by simp [h1,h2],rfl⟩)
theorem qQ (n:Int) (w:World) (h1:0<=n) (h2:n<=4000000000000000000) :
  cP 87 #[n] w (.int .i64 (M.root n)):=by
 go_enter func87,ntmps87
 go_wp2
 go_loop [3,4] (fun l h=>∃ a b:Int,0<=a/\a<b/\b<=2000000001/\l=.int .i64 a/\h=.int .i64 b/\a*a<=n/\n<b*b) (fun l h=>(intOf h - intOf l).toNat)
 case atStart=>exact ⟨0,2000000001,ω,ω,ω,rfl,rfl,by simp;omega,by simp;omega⟩
 case round=>
 obtain ⟨a,b,ha,hab,hb,rfl,rfl,ha2,hb2⟩:=hrel
 by_cases c1:1<b - a
 ·have hm1:a<(a+b) / 2:=ω
  have hm2:(a+b) / 2<b:=ω
  have MR:=tr (x:=(a+b) / 2) (y:=(a+b) / 2) (m:=2000000001) (n:=2000000001) ω ω ω ω
  by_cases c2:(a+b) / 2*((a+b) / 2)<=n
  ·go_wp2
   go_round
   case rel=>exact ⟨(a+b) / 2,b,ω,ω,ω,rfl,rfl,c2,hb2⟩
   case measure=>simp [intOf];omega
  go_wp2
  go_round
  case rel=>exact ⟨a,(a+b) / 2,ω,ω,ω,rfl,rfl,ha2,ω⟩
  case measure=>simp [intOf];omega
 go_wp2;go_ret;exact ⟨rB (pS ⟨ω,ha2,by rw [show (a:Int)+1=b from ω];exact hb2⟩),rfl⟩
theorem VF {p:Prop} (h:p:=by rw [←Hg.out];simp only [M.gcd,Int.gcd_zero_right];omega):p:=h
theorem qR (a b:Int) (w:World) (h1:-9000000000000000000<=a) (h2:a<=9000000000000000000) (h3:-9000000000000000000<=b) (h4:b<=9000000000000000000) :
  Calls prog 97 #[a,b] w fun e w'=>e=.returned (.int .i64 (M.gcd a b))/\∃ m,w'=w.drewN m:=by
 go_enter func97,ntmps97
 go_wp2
 go_loopw [0,1] (fun va vb wr=>∃ x y:Int,va=.int .i64 x/\vb=.int .i64 y/\-9000000000000000000<=x/\x<=9000000000000000000/\-9000000000000000000<=y/\y<=9000000000000000000/\M.gcd x y=M.gcd a b/\∃ m,wr=w.drewN m) (fun _ vb _=>(intOf vb).natAbs)
 case atStart=>exact ⟨a,b,rfl,rfl,h1,h2,h3,h4,rfl,0,rfl⟩
 case round=>
 obtain ⟨x,y,rfl,rfl,x1,x2,y1,y2,hg,m,rfl⟩:=hrel;have Hg:=KO hg;clear hg
 by_cases hy:y=0
 ·subst hy
  by_cases hx:0<=x
  ·go_wp2
   all_goals (go_ret;exact ⟨rB VF,_,rfl⟩)
  go_wp2
  all_goals (go_ret;exact ⟨rB VF,_,rfl⟩)
 have ht:=Int.natAbs_tmod x y;have hm:x.natAbs % y.natAbs<y.natAbs:=Nat.mod_lt _ ω;have ht:=KO (show (x.tmod y).natAbs<y.natAbs by omega)
 have ht1:-9000000000000000000<=x.tmod y:=ω
 have ht2:x.tmod y<=9000000000000000000:=ω
 by_cases hp:0<=x/\1<=y
 ·obtain ⟨p1,p2⟩:=hp
  have e1:=KO (Int.tmod_eq_emod_of_nonneg (b:=y) p1);have hb:=ti (a:=x) p2;go_wp2
  go_quiet (fail)
  go_wp2
  go_roundw
  case rel=>exact ⟨y,x % y,rfl,rfl,y1,y2,ω,ω,by rw [←Hg.out,←e1.out];unfold M.gcd;rw [qS],_,World.drewN_drewN _ _ _⟩
  case measure=>simp [intOf];omega
 go_wp2
 go_quiet (fail)
 go_wp2
 go_roundw
 case rel=>exact ⟨y,x.tmod y,rfl,rfl,y1,y2,ht1,ht2,by rw [←Hg.out];unfold M.gcd;rw [qS],_,World.drewN_drewN _ _ _⟩
 case measure=>have:=ht.out;simp [intOf];omega
theorem eU (a b:Int) (w:World) (h1:0<=a) (h2:a<=9000000000000000000) (h3:0<=b) (h4:b<=9000000000000000000) :
  cP 136 #[a,b] w (.int .i64 (M.gcd a b)):=by
 go_enter func136,ntmps136
 go_wp2
 go_loop [0,1] (fun va vb=>∃ x y:Int,va=.int .i64 x/\vb=.int .i64 y/\0<=x/\x<=9000000000000000000/\0<=y/\y<=9000000000000000000/\M.gcd x y=M.gcd a b) (fun _ vb=>(intOf vb).toNat)
 case atStart=>exact ⟨a,b,rfl,rfl,h1,h2,h3,h4,rfl⟩
 case round=>
 obtain ⟨x,y,rfl,rfl,x1,x2,y1,y2,hg⟩:=hrel;have Hg:=KO hg;clear hg
 by_cases hy:0<y
 ·have hb:=ti (a:=x) (p:=y) ω
  have e1:=KO (Int.tmod_eq_emod_of_nonneg (b:=y) x1);go_wp2
  go_round
  case rel=>exact ⟨y,x % y,rfl,rfl,y1,y2,ω,ω,by rw [←Hg.out,←e1.out];unfold M.gcd;rw [qS]⟩
  case measure=>simp [intOf];omega
 obtain rfl:y=0:=ω
 go_wp2;go_ret;exact ⟨rB VF,rfl⟩
theorem ff (a b:Int) (w:World) :
  cP 94 #[a,b] w (.int .i64 (max a b)):=by
 by_cases h:b<a
 ·go_enter func94,ntmps94
  go_wp2;go_ret;exact ⟨rB ω,rfl⟩
 go_enter func94,ntmps94
 go_wp2;go_ret;exact ⟨rB ω,rfl⟩
theorem eP (a:Int) (w:World) (h1:-9223372036854775807<=a) (h2:a<=9223372036854775807) :
  cP 85 #[a] w (.int .i64 (a.natAbs:Int)):=by
 go_enter func85,ntmps85
 go_wp2_with (go_at_call 94;refine (ff _ _ _).mono ?_;rintro e w' ⟨rfl,rfl⟩)
 go_ret;exact ⟨rB ω,rfl⟩
theorem M3 {p:Prop} (h:p:=by repeat (first | exact KS _ _ | refine bF ?_ _ | refine bX ?_ ψ | refine Below.drew ?_ | refine KR ?_ (by first | exact KT _ | exact Nat.le_add_right _ _ | (simp <;> omega)) _ | refine aP ?_ _)):p:=h
theorem Ug {p:Prop} (h:p:=by first | exact KT _ | exact Nat.le_add_right _ _ | (simp <;> omega)):p:=h
theorem Yw {p:Prop} (h:p:=by obtain ⟨h1,h1',h2,h2'⟩:=ag h;have b1:=aH (x:=4*a) (y:=a) (m:=4000) (n:=1000);have b2:=aH (x:=4*a*a) (y:=a) (m:=4000000) (n:=1000);have b3:=aH (x:=27*b) (y:=b) (m:=270000) (n:=10000);unfold aN;omega):p:=h
theorem fO {W w1:World} (hb:Below W W w1):(∀ b o,b<W.heap.size->w1.cell? ⟨b,o,none⟩=W.cell? ⟨b,o,none⟩)/\(∀ b o,b<W.heap.size->w1.frozen? ⟨b,o,none⟩=W.frozen? ⟨b,o,none⟩)/\W.heap.size<=w1.heap.size:=
 ⟨fun b o h=>hb.cell (p:=⟨b,o,none⟩) h,fun b o h=>hb.frozen (p:=⟨b,o,none⟩) h,hb.size⟩
theorem bE (w:World):w.drew.heap=w.heap:=rfl
theorem aW (w:World) (a:Addr) (v:Value):(w.setCell a v).heap.size=w.heap.size:=by simp [World.setCell]
theorem bF {w W:World} (h:Below w w W) (o:Obj):Below w w (W.alloc o):=h.alloc h.size o
theorem bX {w W w':World} (h:Below w w W) (hb:Below W W w'):Below w w w':=p_ h hb
theorem aP {w W:World} (h:Below w w W) (n:Nat):Below w w (W.drewN n):=by
 induction n with
 | zero=>exact h
 | succ n ih=>exact ih.drew
theorem tK (a b:Int) (w:World) (h:bK a b=true) :
  cB 112 #[.agg #[a,b]] w (.int .i64 (aN a b)):=by
 obtain ⟨h1,h1',h2,h2'⟩:=ag h;have b1:=aH (x:=4*a) (y:=a) (m:=4000) (n:=1000);have b2:=aH (x:=4*a*a) (y:=a) (m:=4000000) (n:=1000);have b3:=aH (x:=27*b) (y:=b) (m:=270000) (n:=10000);go_enter func112,ntmps112
 go_wp2;go_ret;exact ⟨rfl,M3⟩
theorem DI (a b:Int) (w:World) (h:bK a b=true) :
  cB 116 #[.agg #[a,b]] w (.int .i64 (aN a b)):=by
 obtain ⟨h1,h1',h2,h2'⟩:=ag h;have b1:=aH (x:=4*a) (y:=a) (m:=4000) (n:=1000);have b2:=aH (x:=4*a*a) (y:=a) (m:=4000000) (n:=1000);have b3:=aH (x:=27*b) (y:=b) (m:=270000) (n:=10000);go_enter func116,ntmps116
 go_wp2;go_ret;exact ⟨rfl,M3⟩
theorem sH (a b:Int) (w:World) :
  cB 61 #[.agg #[a,b]] w (M.good a b):=by
 cases h1:M.ins a (-1000) 1000
 ·go_enter func61,ntmps61
  go_wp2_with (go_at_call 62;refine (dW _ _ _ _).mono ?_;rintro e w' ⟨rfl,rfl⟩)
  go_ret;exact ⟨fm (by simp [M.good,bK,h1]),M3⟩
 cases h2:M.ins b (-10000) 10000
 ·go_enter func61,ntmps61
  go_wp2_with (go_at_call 62;refine (dW _ _ _ _).mono ?_;rintro e w' ⟨rfl,rfl⟩)
  go_ret;exact ⟨fm (by simp [M.good,bK,h2]),M3⟩
 go_enter func61,ntmps61
 go_wp2_with (first | (go_at_call 62;refine (dW _ _ _ _).mono ?_;rintro e w' ⟨rfl,rfl⟩) | (go_at_call 112;refine (tK _ _ _ (by simp [bK,h1,h2])).mono ?_;rintro e w' ⟨rfl,hb⟩;obtain ⟨Kb,Ww,O8⟩:=fO hb;(try simp only [KQ,bE,World.heap_drewN,aW] at O8)))
 go_ret;exact ⟨fm (by simp [M.good,bK,h1,h2]),M3⟩
theorem jo (a b:Int) (w:World) :
  cB 69 #[.agg #[a,b]] w (M.good a b):=by
 cases h1:M.ins a (-1000) 1000
 ·go_enter func69,ntmps69
  go_wp2_with (go_at_call 70;refine (eW _ _ _ _).mono ?_;rintro e w' ⟨rfl,rfl⟩)
  go_ret;exact ⟨fm (by simp [M.good,bK,h1]),M3⟩
 cases h2:M.ins b (-10000) 10000
 ·go_enter func69,ntmps69
  go_wp2_with (go_at_call 70;refine (eW _ _ _ _).mono ?_;rintro e w' ⟨rfl,rfl⟩)
  go_ret;exact ⟨fm (by simp [M.good,bK,h2]),M3⟩
 go_enter func69,ntmps69
 go_wp2_with (first | (go_at_call 70;refine (eW _ _ _ _).mono ?_;rintro e w' ⟨rfl,rfl⟩) | (go_at_call 116;refine (DI _ _ _ (by simp [bK,h1,h2])).mono ?_;rintro e w' ⟨rfl,hb⟩;obtain ⟨Kb,Ww,O8⟩:=fO hb;(try simp only [KQ,bE,World.heap_drewN,aW] at O8)))
 go_ret;exact ⟨fm (by simp [M.good,bK,h1,h2]),M3⟩
theorem mH (w:World) (cs:Array Value) (T:TypeId) (j:Nat):(w.alloc (.cells cs T)).cell? ⟨w,j,none⟩=cs[j]?:=by
 rw [World.cell?_alloc_at _ _ _ _ rfl]
def cv (a b:Int):Value:=.agg #[a,b]
theorem pK {a b:Int} (h:b≠0):0<M.gcd a b:=by
 unfold M.gcd;have:0<Int.gcd a b:=Int.gcd_pos_of_ne_zero_right _ h;omega
def cM (a b:Int):Int:=if b<0 then -a.tdiv (M.gcd a b) else a.tdiv (M.gcd a b)
def bW (a b:Int):Int:=if b<0 then -b.tdiv (M.gcd a b) else b.tdiv (M.gcd a b)
theorem gN {a b:Int} (h:b<0):cM a b=-a.tdiv (M.gcd a b):=if_pos h
theorem eA {a b:Int} (h:0<=b):cM a b=a.tdiv (M.gcd a b):=if_neg ω
theorem gM {a b:Int} (h:b<0):bW a b=-b.tdiv (M.gcd a b):=if_pos h
theorem dz {a b:Int} (h:0<=b):bW a b=b.tdiv (M.gcd a b):=if_neg ω
theorem fY {a d m:Int} (h1:-m<=a) (h2:a<=m) (hd:d≠0):-m<=a.tdiv d/\a.tdiv d<=m:=by
 have:(a.tdiv d).natAbs<=a.natAbs:=by rw [Int.natAbs_tdiv];exact Nat.div_le_self _ _
 omega
theorem xO {a b:Int} (h:b≠0):M.gcd a b<=b.natAbs:=by
 unfold M.gcd;have:=Nat.le_of_dvd ω (Nat.gcd_dvd_right a.natAbs b.natAbs);simp only [Int.gcd];omega
theorem mL (a b:Int) (w:World) (h1:-4000000000000000000<=a) (h2:a<=4000000000000000000) (h3:-4000000000000000000<=b) (h4:b<=4000000000000000000) (h0:b≠0) :
  cB 86 #[a,b] w (.tuple #[cM a b,bW a b]):=by
 have hg:=pK (a:=a) h0;have hl:=xO (a:=a) h0
 have hgg:M.gcd a.natAbs b.natAbs=M.gcd a b:=by simp [M.gcd,Int.gcd]
 have t1:=fY (d:=M.gcd a b) h1 h2 ω;have t2:=fY (d:=M.gcd a b) h3 h4 ω
 by_cases hb:b<0
 ·have e1:=KO (gN (a:=a) hb)
  have e2:=KO (gM (a:=a) hb);go_enter func86,ntmps86
  go_wp2_with (first | (go_at_call 85;refine (eP _ _ ω ω).mono ?_;rintro e w' ⟨rfl,rfl⟩) | (go_at_call 136;refine (eU _ _ _ ω ω ω ω).mono ?_;rintro e w' ⟨rfl,rfl⟩))
  go_quiet (fail)
  go_wp2;go_ret2;exact ⟨by rw [e1.out,e2.out];rfl,M3⟩
 have e1:=KO (eA (a:=a) (b:=b) ω);have e2:=KO (dz (a:=a) (b:=b) ω);go_enter func86,ntmps86
 go_wp2_with (first | (go_at_call 85;refine (eP _ _ ω ω).mono ?_;rintro e w' ⟨rfl,rfl⟩) | (go_at_call 136;refine (eU _ _ _ ω ω ω ω).mono ?_;rintro e w' ⟨rfl,rfl⟩))
 go_quiet (fail)
 go_wp2;go_ret2;exact ⟨by rw [e1.out,e2.out];rfl,M3⟩
theorem aE {W w':World} (hb:Below W W w') {p:Addr} {v:Value} (h:W.cell? p=some v):w'.cell? p=some v:=
 (hb.cell (World.block_lt_of_cell? W _ h)).trans h
theorem Ft {W w':World} (hb:Below W W w') {p:Addr} (h:p.block<W.heap.size) (hf:W.frozen? p=false):w'.frozen? p=false:=
 (hb.frozen h).trans hf
theorem yf {a b:Int} (h:bK a b=true):-10000000000<=aN a b/\aN a b<=10000000000:=by
 exact Yw
theorem LV {p:Prop} (h:p:=by repeat (first | exact KS _ _ | refine bF ?_ _ | refine bX ?_ ψ | refine Below.drew ?_ | refine KR ?_ Ug _ | refine aP ?_ _)):p:=h
theorem ZO {p:Prop} (h:p:=by
 obtain ⟨h1,h2⟩:=h;refine ⟨h1,?_⟩
 rcases h2 with h2 | ⟨g,cap,cur,hv,hg,hh,r⟩
 ·exact Or.inl h2
 exact Or.inr ⟨g,cap,cur,hv,Nat.le_trans hb hg,hh,r⟩):p:=h
theorem mU:(prog.info? 3).map (fun i=>(i.zero,i.size,i.bytes))=some (some (.int .i64 0),1,8):=κ
def aF (w:World) (base:Nat) (v:Value) (xs:List Int):Prop:=w.ownsRow base 3 1 v xs.length (xs.map (Value.int .i64))
theorem aF.nil (w:World) (base:Nat):aF w base (.slice none 0 0) []:=World.ownsRow_nil w base _ 1
theorem aF.push {w:World} {base:Nat} {v':Value} {xs:List Int} {n:Nat} {x:Int} {ys:List Int} (hn:n=xs.length) (h:w.ownsRow base 3 1 v' (n+1) (xs.map (Value.int .i64) ++ [.int .i64 x])) (he:ys=xs ++ [x]):aF w base v' ys:=by
 subst hn he
 simpa [aF] using h
theorem aF.below {w w':World} {base:Nat} {v:Value} {xs:List Int} (h:aF w base v xs) (hb:Below w w w'):aF w' base v xs:=by
 obtain ⟨h1,h2⟩:=h;refine ⟨h1,?_⟩
 rcases h2 with h2 | ⟨g,cap,cur,hv,hg,hh,r⟩
 ·exact Or.inl h2
 exact Or.inr ⟨g,cap,cur,hv,hg,by rw [hb.block g (Array.getElem?_eq_some_iff.1 hh).1];exact hh,r⟩
theorem aF.base {w:World} {base base':Nat} {v:Value} {xs:List Int} (h:aF w base v xs) (hb:base'<=base):aF w base' v xs:=by
 exact ZO
theorem tz (x:Int):∀ u ∈ [Value.int .i64 x],u.oneCell'=true:=by
 intro u hu;simp only [List.mem_singleton] at hu;subst hu;rfl
theorem aF.view {w:World} {base:Nat} {v:Value} {xs:List Int} (h:aF w base v xs):∃ (a:Option Addr) (cap:Nat),v=.slice a xs.length cap/\(xs.length:Int)<=9223372036854775807/\
  ∀ k,k<xs.length->∃ g x,a=some ⟨g,0,none⟩/\base<=g/\Hid (xs[k]?=some x)/\w.cell? ⟨g,k,none⟩=some (.int .i64 x):=by
 obtain ⟨h1,h2⟩:=h
 rcases h2 with ⟨rfl,hn⟩ | ⟨g,cap,cur,rfl,hg,hh,hc,hm,hs,ht⟩
 ·refine ⟨none,0,by rw [hn],ω,fun k hk=>ω⟩
 refine ⟨some ⟨g,0,none⟩,cap,rfl,by unfold maxLen at hm;omega,fun k hk=>⟨g,xs[k],rfl,hg,List.getElem?_eq_getElem hk,?_⟩⟩;rw [cell_of_row w g k cur _ (0,0) hh]
 have e:(xs.map (Value.int .i64))[k]?=some (.int .i64 xs[k]):=by
  rw [List.getElem?_map,List.getElem?_eq_getElem hk];rfl
 rw [←ht,List.getElem?_take] at e
 split at e
 ·simpa using e
 cases e
theorem fW {xs:List Int} {k:Nat} {x:Int} (h:xs[k]?=some x):xs.take (k+1)=xs.take k ++ [x]:=by
 obtain ⟨hk,e⟩:=List.getElem?_eq_some_iff.1 h;rw [List.take_succ_eq_append_getElem hk,e]
theorem dq {ops:Array Oper} {rest:List Oper} {o:Oper} {a:Act} {Q:Exit->Act->World->Prop} {w W:World} (base:Nat) (y:Int) (xs:List Int) (v:Value) (hgd:o.guard=none) (s x:Operand)
  (ho:o.op=.call { callee:=.builtin .append,args:=#[s,x],argTypes:=#[41,41] }) (hs:a.eval s=v) (hx:a.eval x=.slice (some ⟨w,0,none⟩) 1 1)
  (hown:aF w base v xs) (hW:Below base W w) (hB:base<=w.heap.size) (hl:xs.length<=10000000000)
  (h:∀ v' w',aF w' base v' (xs ++ [y])->Below base W w'->wpList prog ops Q rest (a.put o.dst v') w') :
  wpList prog ops Q (o :: rest) a (w.alloc (.cells #[y] 3)):=by
 obtain ⟨i0,hi,hz0,hz1,hz2⟩:=info_parts mU
 refine wpList_append_own _ hgd s x 41 ho base 3 i0 (.int .i64 0) 1 8 Tryz.underlying41 hi hz0 hz1 hz2 rfl δ v xs.length (xs.map (Value.int .i64)) hs (hown.alloc _) ⟨w,0,none⟩ 1 1 [.int .i64 y] hx rfl (fun j u hu=>by
  have hadd:(⟨w,0,none⟩:Addr).add j=⟨w,j,none⟩:=by unfold Addr.add;split <;> simp_all
  rw [hadd,World.cell?_alloc_at _ _ _ _ rfl]
  simpa using hu) (tz _) ?_ ?_ ?_ ?_
 ·unfold maxLen;omega
 ·omega
 ·simp;omega
 intro v' w' h1 h2 _;exact h v' w' (aF.push rfl h1 rfl) ((hW.alloc hB _).grown h2 (by simp;omega) fun k hk=>(hown.lt k hk).1)
def jh (w:World) (hi:Nat) (v:Value) (xs:List Int):Prop:=
 ∃ (a:Option Addr) (cap:Nat),v=.slice a xs.length cap/\(xs.length:Int)<=9223372036854775807/\
  ∀ k,k<xs.length->∃ g x,a=some ⟨g,0,none⟩/\g<hi/\Hid (xs[k]?=some x)/\w.cell? ⟨g,k,none⟩=some (.int .i64 x)
theorem jh.below {w w':World} {hi:Nat} {v:Value} {xs:List Int} (h:jh w hi v xs) (hb:Below hi w w'):jh w' hi v xs:=by
 obtain ⟨a,cap,h1,h2,h3⟩:=h;refine ⟨a,cap,h1,h2,fun k hk=>?_⟩;obtain ⟨g,x,e1,e2,e3,e4⟩:=h3 k hk;exact ⟨g,x,e1,e2,e3,(hb.cell (p:=⟨g,k,none⟩) e2).trans e4⟩
theorem jh.mono {w:World} {hi hi':Nat} {v:Value} {xs:List Int} (h:jh w hi v xs) (hh:hi<=hi'):jh w hi' v xs:=by
 obtain ⟨a,cap,h1,h2,h3⟩:=h;refine ⟨a,cap,h1,h2,fun k hk=>?_⟩;obtain ⟨g,x,e1,e2,e3,e4⟩:=h3 k hk;exact ⟨g,x,e1,ω,e3,e4⟩
theorem aF.seen {w:World} {base:Nat} {v:Value} {xs:List Int} (h:aF w base v xs):jh w w v xs:=by
 obtain ⟨a,cap,h1,h2,h3⟩:=h.view;refine ⟨a,cap,h1,h2,fun k hk=>?_⟩;obtain ⟨g,x,e1,e2,e3,e4⟩:=h3 k hk;exact ⟨g,x,e1,World.block_lt_of_cell? w _ e4,e3,e4⟩
theorem jh.len {w:World} {hi:Nat} {v:Value} {xs:List Int} (h:jh w hi v xs):(xs.length:Int)<=9223372036854775807:=by
 obtain ⟨a,cap,h1,h2,h3⟩:=h;exact h2
theorem dl {a b c:World} {r:Option Nat} (h:a.grownBy b r) (k:b.grownBy c r):a.grownBy c r:=
 ⟨k.os.trans h.os,k.tape.trans h.tape,k.output.trans h.output,Nat.le_trans h.size k.size,fun i hi hne=>(k.block i (Nat.lt_of_lt_of_le hi h.size) hne).trans (h.block i hi hne)⟩
theorem eK (a:World) (r:Option Nat):a.grownBy a r:=⟨rfl,rfl,rfl,KT _,fun _ _ _=>rfl⟩
theorem mR {a b:World} {r:Option Nat} (h:a.grownBy b r) (n:Nat):a.grownBy (b.drewN n) r:=⟨h.os,h.tape,h.output,h.size,h.block⟩
theorem cw {a b:World} {r:Option Nat} {base:Nat} (h:a.grownBy b r) (hb:base<=a.heap.size) (hr:∀ k,r=some k->base<=k):Below base a b:=
 ⟨h.os,h.tape,h.output,h.size,fun i hi=>h.block i ω (fun e=>by have:=hr i e.symm;omega)⟩
theorem bT {a b:World} (h:Below a a b) (r:Option Nat):a.grownBy b r:=⟨h.os,h.tape,h.output,h.size,fun i hi _=>h.block i hi⟩
theorem aF.set {w:World} {base g cap n j:Nat} {xs:List Int} (hn:n=xs.length) (h:aF w base (.slice (some ⟨g,0,none⟩) n cap) xs) (x:Int) {ys:List Int} (he:ys=xs.set j x) :
  aF (w.setCell ⟨g,j,none⟩ (.int .i64 x)) base (.slice (some ⟨g,0,none⟩) n cap) ys/\w.grownBy (w.setCell ⟨g,j,none⟩ (.int .i64 x)) (some g):=by
 subst he hn;have:=World.ownsRow.stored (g:=g) (cap:=cap) h j (.int .i64 x);refine ⟨?_,this.2⟩;unfold aF;rw [List.map_set,List.length_set];exact this.1
theorem aF.form {w:World} {base:Nat} {v:Value} {xs:List Int} (h:aF w base v xs) (hn:0<xs.length):∃ g cap,v=.slice (some ⟨g,0,none⟩) xs.length cap/\base<=g/\g<w.heap.size:=by
 rcases h.2 with ⟨rfl,h2⟩ | ⟨g,cap,cur,rfl,hg,hh,-⟩
 ·omega
 exact ⟨g,cap,rfl,hg,(Array.getElem?_eq_some_iff.1 hh).1⟩
theorem aF.ve {w:World} {base:Nat} {v:Value} {xs:List Int} (h:aF w base v xs):∃ a cap,v=.slice a xs.length cap:=by
 obtain ⟨a,cap,h1,-⟩:=h.view;exact ⟨a,cap,h1⟩
theorem ZA {p:Prop} (h:p:=by unfold Oper.wp execOp;simp only [ho,resolve,invoke,builtin,Sem.run_bind,Sem.run_pure,Result.andThen_ok,List.map_toArray,List.map_cons,List.map_nil,hs,hx,h1];exact hK _ _ (h v' w' h2 h3)):p:=h
theorem aF.Ax (w:World) (base:Nat) (hb:base<=w.heap.size):aF (w.alloc (.cells #[] 3)) base (.slice (some ⟨w,0,none⟩) 0 0) []:=
 World.ownsRow_made w #[] 0 hb (by unfold maxLen;omega) rfl
theorem aF.lt {w:World} {base:Nat} {v:Value} {xs:List Int} (h:aF w base v xs):∀ k,v.ownBlock=some k->base<=k/\k<w.heap.size:=World.ownsRow.lt h
theorem aF.alloc {w:World} {base:Nat} {v:Value} {xs:List Int} (h:aF w base v xs) (o:Obj):aF (w.alloc o) base v xs:=World.ownsRow.alloc h o
theorem aF.forms {w:World} {base:Nat} {v:Value} {xs:List Int} (h:aF w base v xs):(v=.slice none 0 0/\xs=[])∨∃ g cap,v=.slice (some ⟨g,0,none⟩) xs.length cap/\base<=g:=by
 rcases h.2 with ⟨e,h2⟩ | ⟨g,cap',cur,e,hg,-⟩
 ·exact Or.inl ⟨e,List.eq_nil_of_length_eq_zero h2⟩
 exact Or.inr ⟨g,cap',e,hg⟩
theorem aF.cap {w:World} {base:Nat} {a:Option Addr} {n cap:Nat} {xs:List Int} (h:aF w base (.slice a n cap) xs):xs.length<=cap/\cap<=9223372036854775807:=by
 rcases h.2 with ⟨e,h2⟩ | ⟨g,cap',cur,e,-,-,h3,h4,-⟩
 ·injection e with e1 e2 e3
  exact ω
 injection e with e1 e2 e3
 unfold maxLen at h4;exact ω
theorem fK {P:Program} (w:World) (base:Nat) (t ty e:TypeId) (i:TypeInfo) (size:Nat) (ht:P.underlying t=some (.slice e)) (hi:P.info? e=some i)
  (v:Value) (n:Nat) (xs:List Value) (hown:w.ownsRow base e size v n xs) (c:Nat):(Builtin.append_ #[t,t] ty #[v,.slice none 0 c]).run P w=.ok v w:=by
 rcases hown.2 with ⟨rfl,rfl⟩ | ⟨g,cap,cur,rfl,_,_,hnc,_⟩
 ·simp [Builtin.append_,run_underlying ht,sizeOf,typeInfo,hi,Builtin.lenOf,Builtin.firstCells]
 simp [Builtin.append_,run_underlying ht,sizeOf,typeInfo,hi,Builtin.lenOf,Builtin.firstCells,hnc,storeCells]
theorem uO {w W:World} (base:Nat) (ty:TypeId) (ys xs:List Int) (v:Value) (A:Option Addr) (c:Nat)
  (hr:∀ j y,ys[j]?=some y->∃ ad,A=some ad/\w.cell? (ad.add j)=some (.int .i64 y)) (hown:aF w base v xs) (hW:Below base W w) (hB:base<=w.heap.size) (hl:xs.length+ys.length<=10000000000) :
  ∃ v' w',(Builtin.append_ #[41,41] ty #[v,.slice A ys.length c]).run prog w=.ok v' w'/\aF w' base v' (xs ++ ys)/\Below base W w':=by
 obtain ⟨i0,hi,hz0,hz1,hz2⟩:=info_parts mU
 cases A with
 | none=>
  have he:ys=[]:=by
   cases ys with
   | nil=>rfl
   | cons y ys=>obtain ⟨ad,h,-⟩:=hr 0 y rfl;cases h
  subst he;exact ⟨v,w,fK w base _ _ _ i0 1 Tryz.underlying41 hi _ _ _ hown c,by simpa using hown,hW⟩
 | some ad=>
 obtain ⟨v',w',h1,h2,h3,-,-⟩:=run_append_own_at (P:=prog) w base 41 ty 3 i0 (.int .i64 0) 1 8 Tryz.underlying41 hi hz0 hz1 hz2 rfl δ v xs.length (xs.map (Value.int .i64)) hown ad ys.length c (ys.map (Value.int .i64))
  σ (fun j u hu=>by
   rw [List.getElem?_map] at hu
   cases hy:ys[j]? with
   | none=>rw [hy] at hu;cases hu
   | some y=>
    rw [hy] at hu;obtain ⟨ad',h1,h2⟩:=hr j y hy;obtain rfl:=Option.some.inj h1;obtain rfl:=Option.some.inj hu
    exact h2) (fun u hu=>by
   obtain ⟨y,-,rfl⟩:=List.mem_map.1 hu
   rfl) (by unfold maxLen;omega) ω hB
 refine ⟨v',w',h1,?_,hW.grown h3 hB fun k hk=>(hown.lt k hk).1⟩;unfold aF;rw [List.map_append,List.length_append];exact h2
theorem wC {ops:Array Oper} {rest:List Oper} {o:Oper} {a:Act} {Q:Exit->Act->World->Prop} {w W:World} (base:Nat) (ys xs:List Int) (v:Value) (A:Option Addr) (m c:Nat) (hm:ys.length=m) (hgd:o.guard=none) (s x:Operand)
  (ho:o.op=.call { callee:=.builtin .append,args:=#[s,x],argTypes:=#[41,41] }) (hs:a.eval s=v) (hx:a.eval x=.slice A m c)
  (hr:∀ j y,ys[j]?=some y->∃ ad,A=some ad/\w.cell? (ad.add j)=some (.int .i64 y)) (hown:aF w base v xs) (hW:Below base W w) (hB:base<=w.heap.size) (hl:xs.length+ys.length<=10000000000)
  (h:∀ v' w',aF w' base v' (xs ++ ys)->Below base W w'->wpList prog ops Q rest (a.put o.dst v') w') :
  wpList prog ops Q (o :: rest) a w:=by
 subst hm
 refine wpList_plain hgd fun _ hK=>?_
 obtain ⟨v',w',h1,h2,h3⟩:=uO (w:=w) (W:=W) base o.type ys xs v A c hr hown hW hB hl;exact ZA
theorem Yn {p:Prop} (h:p:=by
 cases ys with
 | nil=>rfl
 | cons y ys=>
 have hp:=E.pos;have hl:=E.len y;obtain ⟨ad,h,-⟩:=hr 0 ((E.cells y)[0]' ω) (by rw [List.flatMap_cons,List.getElem?_append_left ω];exact List.getElem?_eq_getElem _);cases h):p:=h
theorem U_ {p:Prop} (h:p:=by unfold Own;rw [List.flatMap_append,List.length_append];exact h2):p:=h
namespace Rw
variable {α:Type}
structure Enc (α:Type) where
 t:TypeId
 k:Nat
 cells:α->List Value
 len:∀ x,(cells x).length=k
 one:∀ x,∀ u ∈ cells x,u.oneCell'=true
 pos:0<k
theorem cr (E:Enc α):∀ xs:List α,(xs.flatMap E.cells).length=xs.length*E.k
 | []=>σ
 | x :: xs=>by rw [List.flatMap_cons,List.length_append,cr E xs,E.len,List.length_cons,Nat.add_mul];omega
theorem flat_get (E:Enc α):∀ (xs:List α) (j i:Nat) (x:α),xs[j]?=some x->i<E.k->(xs.flatMap E.cells)[j*E.k+i]?=(E.cells x)[i]?
 | [],_,_,_,h,_=>by simp at h
 | y :: ys,0,i,x,h,hi=>by
  simp only [List.getElem?_cons_zero,Option.some.injEq] at h;subst h;rw [List.flatMap_cons,Nat.zero_mul,Nat.zero_add,List.getElem?_append_left (by rw [E.len];exact hi)]
 | y :: ys,j+1,i,x,h,hi=>by
  have ih:=flat_get E ys j i x (by simpa using h) hi;rw [List.flatMap_cons,List.getElem?_append_right (by rw [E.len,Nat.add_mul];omega),E.len];rw [←ih]
  congr 1
  rw [Nat.add_mul];omega
theorem nX (E:Enc α) (xs:List α) (n:Nat):(xs.take n).flatMap E.cells=(xs.flatMap E.cells).take (n*E.k):=by
 have e:xs.flatMap E.cells=(xs.take n).flatMap E.cells ++ (xs.drop n).flatMap E.cells:=by rw [←List.flatMap_append,List.take_append_drop]
 rcases Nat.lt_or_ge n xs.length with h | h
 ·have hl:((xs.take n).flatMap E.cells).length=n*E.k:=by rw [cr,List.length_take,Nat.min_eq_left ω]
  rw [e,←hl,List.take_left]
 rw [List.take_of_length_le h,List.take_of_length_le (by rw [cr];exact Nat.mul_le_mul_right _ h)]
theorem Aj (E:Enc α) (xs:List α) (n:Nat):(xs.drop n).flatMap E.cells=(xs.flatMap E.cells).drop (n*E.k):=by
 have e:xs.flatMap E.cells=(xs.take n).flatMap E.cells ++ (xs.drop n).flatMap E.cells:=by rw [←List.flatMap_append,List.take_append_drop]
 rcases Nat.lt_or_ge n xs.length with h | h
 ·have hl:((xs.take n).flatMap E.cells).length=n*E.k:=by rw [cr,List.length_take,Nat.min_eq_left ω]
  rw [e,←hl,List.drop_left]
 rw [List.drop_eq_nil_of_le h,List.drop_eq_nil_of_le (by rw [cr];exact Nat.mul_le_mul_right _ h)];rfl
theorem nO (E:Enc α) (xs:List α):∀ u ∈ xs.flatMap E.cells,u.oneCell'=true:=by
 intro u hu;obtain ⟨x,-,h⟩:=List.mem_flatMap.1 hu;exact E.one x u h
def Own (E:Enc α) (w:World) (base:Nat) (v:Value) (xs:List α):Prop:=w.ownsRow base E.t E.k v xs.length (xs.flatMap E.cells)
variable {E:Enc α} {w w':World} {base base':Nat} {v:Value} {xs:List α}
theorem Own.nil (E:Enc α) (w:World) (base:Nat):Own E w base (.slice none 0 0) ([]:List α):=World.ownsRow_nil w base _ _
theorem Own.Ax (E:Enc α) (w:World) (base:Nat) (hb:base<=w.heap.size):Own E (w.alloc (.cells #[] E.t)) base (.slice (some ⟨w,0,none⟩) 0 0) ([]:List α):=
 World.ownsRow_made w #[] 0 hb (by unfold maxLen;omega) σ
theorem Own.kept {r:Option Nat} (h:Own E w base v xs) (hg:w.grownBy w' r) (hr:∀ g,r=some g->v.ownBlock≠some g):Own E w' base v xs:=by
 refine World.ownsRow.kept h hg ?_
 cases r with
 | none=>
  cases hv:v.ownBlock
  ·exact Or.inl rfl
  exact Or.inr σ
 | some g=>exact Or.inr (hr g rfl)
theorem Own.below (h:Own E w base v xs) (hb:Below w w w'):Own E w' base v xs:=h.kept (bT hb none) fun g hg=>by cases hg
theorem Own.down (h:Own E w base v xs) (hb:base'<=base):Own E w base' v xs:=by
 exact ZO
theorem Own.alloc (h:Own E w base v xs) (o:Obj):Own E (w.alloc o) base v xs:=World.ownsRow.alloc h o
theorem Own.lt (h:Own E w base v xs):∀ g,v.ownBlock=some g->base<=g/\g<w.heap.size:=World.ownsRow.lt h
theorem Own.forms (h:Own E w base v xs):(v=.slice none 0 0/\xs=[])∨∃ g cap,v=.slice (some ⟨g,0,none⟩) xs.length cap/\base<=g/\g<w.heap.size/\xs.length<=cap/\cap<=9223372036854775807:=by
 rcases h.2 with ⟨e,h2⟩ | ⟨g,cap',cur,e,hg,hh,h3,h4,-⟩
 ·exact Or.inl ⟨e,List.eq_nil_of_length_eq_zero h2⟩
 exact Or.inr ⟨g,cap',e,hg,(Array.getElem?_eq_some_iff.1 hh).1,h3,by unfold maxLen at h4;omega⟩
def Seen (E:Enc α) (w:World) (hi:Nat) (v:Value) (xs:List α):Prop:=
 ∃ (a:Option Addr) (cap:Nat),v=.slice a xs.length cap/\xs.length<=cap/\cap<=9223372036854775807/\
  ∀ j,j<xs.length->∃ g x,a=some ⟨g,0,none⟩/\g<hi/\Hid (xs[j]?=some x)/\∀ i u,(E.cells x)[i]?=some u->w.cell? ⟨g,j*E.k+i,none⟩=some u
theorem Seen.below {hi:Nat} (h:Seen E w hi v xs) (hb:Below hi w w'):Seen E w' hi v xs:=by
 obtain ⟨a,cap,h1,h2,h2',h3⟩:=h;refine ⟨a,cap,h1,h2,h2',fun k hk=>?_⟩;obtain ⟨g,x,e1,e2,e3,e4⟩:=h3 k hk;exact ⟨g,x,e1,e2,e3,fun i u hu=>(hb.cell (p:=⟨g,k*E.k+i,none⟩) e2).trans (e4 i u hu)⟩
theorem Own.seen (h:Own E w base v xs):Seen E w w v xs:=by
 have hf:=h.forms;obtain ⟨h1,h2⟩:=h
 rcases h2 with ⟨rfl,hn⟩ | ⟨g,cap,cur,rfl,hg,hh,hc,hm,hs,ht⟩
 ·exact ⟨none,0,by rw [hn],ω,ω,fun k hk=>ω⟩
 refine ⟨some ⟨g,0,none⟩,cap,rfl,hc,by unfold maxLen at hm;omega,fun j hj=>⟨g,xs[j],rfl,(Array.getElem?_eq_some_iff.1 hh).1,List.getElem?_eq_getElem hj,fun i u hu=>?_⟩⟩;rw [cell_of_row w g _ cur _ (0,0) hh]
 have hi:i<E.k:=by rw [←E.len xs[j]];exact (List.getElem?_eq_some_iff.1 hu).1
 have e:=flat_get E xs j i _ (List.getElem?_eq_getElem hj) hi;rw [hu,←ht,List.getElem?_take] at e
 split at e
 ·simpa using e
 cases e
def From (E:Enc α) (w:World) (A:Option Addr) (ys:List α):Prop:=∀ j u,(ys.flatMap E.cells)[j]?=some u->∃ ad,A=some ad/\w.cell? (ad.add j)=some u
theorem From.nil (E:Enc α) (w:World) (A:Option Addr):From E w A ([]:List α):=fun j u h=>by simp at h
theorem From.lit (E:Enc α) (w:World) (x:α) (H:Nat) (hH:w.heap.size=H):From E (w.alloc (.cells (E.cells x).toArray E.t)) (some ⟨H,0,none⟩) [x]:=by
 intro j u h;subst hH
 have hadd:∀ b i:Nat,(⟨b,0,none⟩:Addr).add i=⟨b,i,none⟩:=fun b i=>by unfold Addr.add;split <;> simp_all
 refine ⟨_,rfl,?_⟩;rw [hadd,World.cell?_alloc_at _ _ _ _ rfl]
 simpa using h
theorem Own.cellAt {g n cap:Nat} (hn:n=xs.length) (h:Own E w base (.slice (some ⟨g,0,none⟩) n cap) xs) (j:Nat) (u:Value) (hu:(xs.flatMap E.cells)[j]?=some u):w.cell? ⟨g,j,none⟩=some u/\w.frozen? ⟨g,j,none⟩=false:=by
 subst hn;have hj:=(List.getElem?_eq_some_iff.1 hu).1;rw [cr] at hj;exact ⟨(World.ownsRow.cellAt h j hj).trans hu,World.ownsRow.frozenAt h j⟩
theorem Own.Hk {g n cap:Nat} (hn:n=xs.length) (h:Own E w base (.slice (some ⟨g,0,none⟩) n cap) xs) {hi:Nat} (hhi:g<hi) (hb:Below hi w w') (m:Nat):From E w' (some ⟨g,0,none⟩) (xs.take m):=by
 intro j u hu
 have hadd:∀ b i:Nat,(⟨b,0,none⟩:Addr).add i=⟨b,i,none⟩:=fun b i=>by unfold Addr.add;split <;> simp_all
 rw [nX,List.getElem?_take] at hu
 split at hu
 ·exact ⟨_,rfl,by rw [hadd];exact (hb.cell (p:=⟨g,j,none⟩) hhi).trans (h.cellAt hn j u hu).1⟩
 cases hu
theorem mg (base g cap n:Nat) (t:TypeId) (k:Nat):∀ (l:List Value) (o:Nat) (w:World) (zs:List Value),w.ownsRow base t k (.slice (some ⟨g,0,none⟩) n cap) n zs->
  ∃ ys,(w.setCells g o l).ownsRow base t k (.slice (some ⟨g,0,none⟩) n cap) n ys/\ys.take o=zs.take o/\w.grownBy (w.setCells g o l) (some g)
 | [],o,w,zs,h=>⟨zs,h,rfl,eK _ _⟩
 | u :: l,o,w,zs,h=>by
  have h1:=World.ownsRow.stored h o u;obtain ⟨ys,k1,k2,k3⟩:=mg base g cap n t k l (o+1) _ _ h1.1;refine ⟨ys,k1,?_,dl h1.2 k3⟩;have:=congrArg (List.take o) k2;rw [List.take_take,List.take_take,Nat.min_eq_left ω] at this;rw [this,List.take_set,List.set_eq_of_length_le Np]
theorem Ge {t:TypeId} {k g n cap i:Nat} {zs:List Value} (h:w.ownsRow base t k (.slice (some ⟨g,0,none⟩) n cap) n zs) (hi:i<=n):w.ownsRow base t k (.slice (some ⟨g,0,none⟩) i cap) i (zs.take (i*k)):=by
 obtain ⟨h1,h2⟩:=h;have hik:i*k<=n*k:=Nat.mul_le_mul_right _ hi
 rcases h2 with ⟨e,-⟩ | ⟨g',cap',cur,e,hg,hh,hc,hm,hs,ht⟩
 ·cases e
 injection e with e1 e2 e3
 simp only [Option.some.injEq,Addr.mk.injEq,and_true] at e1;subst e1 e3;refine ⟨by rw [List.length_take];omega,Or.inr ⟨g,cap,cur,rfl,hg,hh,ω,hm,hs,?_⟩⟩;rw [←ht,List.take_take,Nat.min_eq_left hik]
theorem Own.cut {g n cap i:Nat} {ys:List α} (hn:n=xs.length) (h:Own E w base (.slice (some ⟨g,0,none⟩) n cap) xs) (hi:i<=n) (l:List Value) (hy:ys=xs.take i) (o:Nat) (ho:o=i*E.k) :
  Own E (w.setCells g o l) base (.slice (some ⟨g,0,none⟩) i cap) ys/\w.grownBy (w.setCells g o l) (some g):=by
 subst hn hy ho;obtain ⟨rs,k1,k2,k3⟩:=mg base g cap xs.length E.t E.k l (i*E.k) w _ h;refine ⟨?_,k3⟩
 have hl:(xs.take i).length=i:=by rw [List.length_take];omega
 have:=Ge k1 hi;rw [k2,←nX] at this;unfold Own;rw [hl];exact this
theorem vG (E:Enc α):∀ (xs:List α) (j:Nat) (x:α),j<xs.length->∀ t,((xs.set j x).flatMap E.cells)[t]?=if j*E.k<=t/\t<j*E.k+E.k then (E.cells x)[t - j*E.k]? else (xs.flatMap E.cells)[t]?
 | [],j,x,h,_=>by simp at h
 | y :: ys,0,x,h,t=>by
  rw [List.set_cons_zero,List.flatMap_cons,List.flatMap_cons]
  by_cases ht:t<E.k
  ·rw [List.getElem?_append_left (by rw [E.len];exact ht),if_pos ω]
   simp
  rw [List.getElem?_append_right (by rw [E.len];omega),if_neg ω,List.getElem?_append_right (by rw [E.len];omega),E.len,E.len]
 | y :: ys,j+1,x,h,t=>by
  have ih:=vG E ys j x (by simpa using h);rw [List.set_cons_succ,List.flatMap_cons,List.flatMap_cons]
  have e:(j+1)*E.k=j*E.k+E.k:=by rw [Nat.add_mul];omega
  by_cases ht:t<E.k
  ·rw [List.getElem?_append_left (by rw [E.len];exact ht),List.getElem?_append_left (by rw [E.len];exact ht),if_neg ω]
  rw [List.getElem?_append_right (by rw [E.len];omega),List.getElem?_append_right (by rw [E.len];omega),E.len,ih (t - E.k),e]
  by_cases hc:j*E.k<=t - E.k/\t - E.k<j*E.k+E.k
  ·rw [if_pos hc,if_pos ω]
   congr 1
   omega
  rw [if_neg hc,if_neg ω]
structure Fits (P:Program) (E:Enc α) (ts:TypeId):Prop where
 under:P.underlying ts=some (.slice E.t)
 info:∃ i z,P.info? E.t=some i/\i.zero=some z/\i.size=E.k/\i.bytes<=1000/\z.cells.size=E.k
theorem wM {P:Program} {ts:TypeId} (F:Fits P E ts) {W:World} (ty:TypeId) (ys:List α) (A:Option Addr) (c:Nat)
  (hr:From E w A ys) (hown:Own E w base v xs) (hW:Below base W w) (hB:base<=w.heap.size) (hl:xs.length+ys.length<=100000000000) :
  ∃ v' w',(Builtin.append_ #[ts,ts] ty #[v,.slice A ys.length c]).run P w=.ok v' w'/\Own E w' base v' (xs ++ ys)/\Below base W w':=by
 obtain ⟨i,z,hi,hz,hs,hby,hzc⟩:=F.info
 cases A with
 | none=>
  have he:ys=[]:=by
   exact Yn
  subst he;exact ⟨v,w,fK w base _ _ _ i E.k F.under hi _ _ _ hown c,by simpa using hown,hW⟩
 | some ad=>
 have hbb:(xs.length+ys.length)*i.bytes<=140737488355328:=Nat.le_trans (Nat.mul_le_mul hl hby) ω
 obtain ⟨v',w',h1,h2,h3,-,-⟩:=run_append_own_at (P:=P) w base ts ty E.t i z E.k i.bytes F.under hi hz hs rfl hzc E.pos v xs.length (xs.flatMap E.cells) hown ad ys.length c (ys.flatMap E.cells)
  (cr E ys) (fun j u hu=>by
   obtain ⟨ad',h1,h2⟩:=hr j u hu;obtain rfl:=Option.some.inj h1
   exact h2) (nO E ys) (by unfold maxLen;omega) hbb hB
 refine ⟨v',w',h1,?_,hW.grown h3 hB fun k hk=>(Own.lt hown k hk).1⟩;exact U_
theorem push {P:Program} {ts:TypeId} (F:Fits P E ts) {ops:Array Oper} {rest:List Oper} {o:Oper} {a:Act} {Q:Exit->Act->World->Prop} {W:World} (base:Nat) (ys xs:List α) (v:Value) (A:Option Addr) (m c:Nat) (hm:ys.length=m) (hgd:o.guard=none) (s x:Operand)
  (ho:o.op=.call { callee:=.builtin .append,args:=#[s,x],argTypes:=#[ts,ts] }) (hs:a.eval s=v) (hx:a.eval x=.slice A m c)
  (hr:From E w A ys) (hown:Own E w base v xs) (hW:Below base W w) (hB:base<=w.heap.size) (hl:xs.length+ys.length<=100000000000)
  (h:∀ v' w',Own E w' base v' (xs ++ ys)->Below base W w'->wpList P ops Q rest (a.put o.dst v') w') :
  wpList P ops Q (o :: rest) a w:=by
 subst hm
 refine wpList_plain hgd fun _ hK=>?_
 obtain ⟨v',w',h1,h2,h3⟩:=wM F (w:=w) (W:=W) (base:=base) o.type ys A c hr hown hW hB hl;exact ZA
theorem BZ {P:Program} {ts:TypeId} (F:Fits P E ts) {W:World} (ty:TypeId) (ys:List α) (A:Option Addr) (c:Nat)
  (hr:From E w A ys) (hown:Own E w base v xs) (hW:Below base W w) (hB:base<=w.heap.size) (hl:xs.length+ys.length<=100000000000) :
  ∃ v' w',(Builtin.append_ #[ts,ts] ty #[v,.slice A ys.length c]).run P w=.ok v' w'/\Own E w' base v' (xs ++ ys)/\Below base W w'/\w.grownBy w' v.ownBlock:=by
 obtain ⟨i,z,hi,hz,hs,hby,hzc⟩:=F.info
 cases A with
 | none=>
  have he:ys=[]:=by
   exact Yn
  subst he;exact ⟨v,w,fK w base _ _ _ i E.k F.under hi _ _ _ hown c,by simpa using hown,hW,World.grownBy.refl _ _⟩
 | some ad=>
 have hbb:(xs.length+ys.length)*i.bytes<=140737488355328:=Nat.le_trans (Nat.mul_le_mul hl hby) ω
 obtain ⟨v',w',h1,h2,h3,-,-⟩:=run_append_own_at (P:=P) w base ts ty E.t i z E.k i.bytes F.under hi hz hs rfl hzc E.pos v xs.length (xs.flatMap E.cells) hown ad ys.length c (ys.flatMap E.cells)
  (cr E ys) (fun j u hu=>by
   obtain ⟨ad',h1,h2⟩:=hr j u hu;obtain rfl:=Option.some.inj h1
   exact h2) (nO E ys) (by unfold maxLen;omega) hbb hB
 refine ⟨v',w',h1,?_,hW.grown h3 hB fun k hk=>(Own.lt hown k hk).1,h3⟩;exact U_
end Rw
end
section
open M
namespace M
theorem sW {q d:Int} (hq:jf q) (h2:2<=d) (hd:q % d=0):d=q:=by
 have hdvd:d ∣ q:=Int.dvd_of_emod_eq_zero hd;obtain ⟨c,hc⟩:=hdvd;have hq2:=hq.1
 have hc1:1<=c:=by
  rcases Int.lt_or_le c 1 with h | h
  ·have:d*c<=0:=Int.mul_nonpos_of_nonneg_of_nonpos ω ω
   omega
  exact h
 rcases Int.lt_or_le c 2 with h | h
 ·have:c=1:=ω
  rw [this] at hc;omega
 exfalso
 rcases Int.lt_or_le c d with h' | h'
 ·refine hq.2 c h ?_ ?_
  ·rw [hc];exact Int.mul_le_mul_of_nonneg_right ω ω
  rw [hc];exact Int.mul_emod_left d c
 refine hq.2 d h2 ?_ hd;rw [hc];exact Int.mul_le_mul_of_nonneg_left h' ω
theorem BN {q x:Int} (hq:jf q) (h:¬ x % q=0):Int.gcd q x=1:=by
 have hg:(Int.gcd q x:Int) ∣ q:=Int.gcd_dvd_left ..;have hg2:(Int.gcd q x:Int) ∣ x:=Int.gcd_dvd_right ..;have hq2:=hq.1;have hpos:0<Int.gcd q x:=Int.gcd_pos_of_ne_zero_left _ ω
 rcases Nat.lt_or_ge (Int.gcd q x) 2 with k | k
 ·omega
 exfalso
 have:=sW hq (d:=(Int.gcd q x:Int)) ω (Int.emod_eq_zero_of_dvd hg);rw [this] at hg2;exact h (Int.emod_eq_zero_of_dvd hg2)
theorem BO {q x y:Int} (hq:jf q) (h:x*y % q=0) (hx:¬ x % q=0):y % q=0:=by
 have h1:=Int.dvd_gcd_mul_iff_dvd_mul.2 (Int.dvd_of_emod_eq_zero h);rw [BN hq hx] at h1;exact Int.emod_eq_zero_of_dvd (by simpa using h1)
noncomputable def rS (n p:Int):Bool:=prime p && (n % p == 0)
noncomputable def wA (n:Int):List Int:=sel (rS n) 0 (n.natAbs+1)
theorem wP {f:Int->Bool} {k m:Nat} (h:∀ x:Int,(k:Int)<=x->x<m->f x=false) (hkm:k<=m):sel f 0 m=sel f 0 k:=by
 induction m with
 | zero=>
      obtain rfl:k=0:=ω
      rfl
 | succ m ih=>
 rcases Nat.lt_or_ge k (m+1) with q | q
 ·rw [EZ (by rw [Int.zero_add];exact h m ω ω),ih (fun x h1 h2=>h x h1 ω) ω]
 obtain rfl:k=m+1:=ω
 rfl
structure nF (N n p:Int) (l:List Int):Prop where
 n1:1<=n
 p2:2<=p
 nN:n<=N
 pn:n=1∨p<=n
 pN:p<=N+1
 dvd:N % n=0
 low:∀ d:Int,2<=d->d<p->¬ n % d=0
 big:∀ q:Int,jf q->p<=q->N % q=0->n % q=0
 out:l=sel (rS N) 0 p.toNat
theorem nF.start {N:Int} (h:1<=N):nF N N 2 [] where
 n1:=h
 p2:=ω
 nN:=ω
 pn:=ω
 pN:=ω
 dvd:=Int.emod_self
 low:=fun d h1 h2=>ω
 big:=fun q _ _ h=>h
 out:=by
  have:sel (rS N) 0 2=sel (rS N) 0 0:=wP (fun x h1 h2=>by
   unfold rS;rw [BP.2 (fun h=>by have:=h.1;omega)]
   rfl) ω
  exact this.symm
theorem nF.prime {N n p:Int} {l:List Int} (h:nF N n p l) (hn:1<n) (hp:n<p*p):jf n:=by
 refine ⟨ω,fun d h2 hd=>h.low d h2 ?_⟩;exact KI (by have:=h.p2;omega) ω
theorem qN {a b c:Int} (h:c % b=0) (k:b % a=0):c % a=0:=
 Int.emod_eq_zero_of_dvd (Int.dvd_trans (Int.dvd_of_emod_eq_zero k) (Int.dvd_of_emod_eq_zero h))
structure VN (n p n':Int):Prop where
 n1:1<=n'
 nn:n'<=n
 dvd:n % n'=0
 big:∀ q:Int,jf q->p<q->n % q=0->n' % q=0
theorem VN.start {n p:Int} (h:1<=n):VN n p n:=⟨h,ω,Int.emod_self,fun _ _ _ h=>h⟩
theorem rk {n p:Int} (hp:1<=p) (h:n % p=0):n / p*p=n:=Int.ediv_mul_cancel (Int.dvd_of_emod_eq_zero h)
theorem IV {n p:Int} (hp:2<=p) (hn:1<=n):n / p<n:=by
 have:=Int.ediv_lt_of_lt_mul (a:=n) (b:=n) (c:=p) ω (by
  have:=Int.mul_le_mul_of_nonneg_left hp (show 0<=n by omega)
  omega)
 exact this
theorem VN.step {n p n':Int} (h:VN n p n') (hp:jf p) (hd:n' % p=0):VN n p (n' / p):=by
 have hp2:=hp.1;have he:=rk ω hd;have h1:=h.n1
 have hpos:1<=n' / p:=by
  rcases Int.lt_or_le (n' / p) 1 with k | k
  ·have:n' / p*p<=0:=Int.mul_nonpos_of_nonpos_of_nonneg ω ω
   omega
  exact k
 have hlt:=IV hp2 h1;refine ⟨hpos,by have:=h.nn;omega,qN h.dvd ?_,fun q hq hpq hnq=>?_⟩
 ·exact Int.emod_eq_zero_of_dvd ⟨p,he.symm⟩
 have:=h.big q hq hpq hnq;refine BO hq (x:=p) ?_ ?_
 ·rw [Int.mul_comm,he];exact this
 intro hz;have:=sW hp hq.1 hz;omega
theorem nF.JE {N n p:Int} {l:List Int} (h:nF N n p l) (hd:n % p=0):jf p:=
 ⟨h.p2,fun d h2 hdp hz=>h.low d h2 (by
  rcases Int.lt_or_le d p with k | k
  ·exact k
  have:p*p<=d*d:=Int.mul_le_mul k k (by have:=h.p2;omega) ω;have:2*p<=p*p:=Int.mul_le_mul_of_nonneg_right h.p2 (by have:=h.p2;omega);have:=h.p2
  omega) (qN hd hz)⟩
theorem D6 {N n p:Int} {l:List Int} (h:nF N n p l) (hd:n % p=0):rS N p=true:=by
 simp [rS,oH.2 (h.JE hd),qN h.dvd hd]
theorem GI {N n p:Int} {l:List Int} (h:nF N n p l) (hd:¬ n % p=0):rS N p=false:=by
 unfold rS
 cases hp:prime p
 ·rfl
 cases hN:(N % p == 0)
 ·rfl
 exact absurd (h.big p (oH.1 hp) ω (by simpa using hN)) hd
theorem nF.next {N n p n':Int} {l l':List Int} (h:nF N n p l) (hn:1<n) (hi:VN n p n') (hd:¬ n' % p=0) (hl:l'=if n % p=0 then l ++ [p] else l):nF N n' (p+1) l' where
 n1:=hi.n1
 p2:=by have:=h.p2;omega
 nN:=by have:=hi.nn;have:=h.nN;omega
 pn:=by
  rcases Int.lt_or_le 1 n' with k | k
  ·right
   rcases Int.lt_or_le p n' with g | g
   ·omega
   exfalso
   rcases Int.lt_or_le n' p with f | f
   ·exact h.low n' ω f hi.dvd
   have:n'=p:=ω
   rw [this] at hd;exact hd Int.emod_self
  left
  have:=hi.n1;omega
 pN:=by
  have h1:=h.nN
  rcases h.pn with k | k <;> omega
 dvd:=qN h.dvd hi.dvd
 low:=fun d h2 hdp hz=>by
  rcases Int.lt_or_le d p with k | k
  ·exact h.low d h2 k (qN hi.dvd hz)
  have:d=p:=ω
  rw [this] at hz;exact hd hz
 big:=fun q hq hpq hN=>hi.big q hq ω (h.big q hq ω hN)
 out:=by
  have hp2:=h.p2
  have e:(p+1).toNat=p.toNat+1:=ω
  rw [e,hl]
  by_cases hz:n % p=0
  ·rw [if_pos hz,Gg (by rw [Int.zero_add,Int.toNat_of_nonneg ω];exact D6 h hz),←h.out,Int.zero_add,Int.toNat_of_nonneg ω]
  rw [if_neg hz,EZ (by rw [Int.zero_add,Int.toNat_of_nonneg ω];exact GI h hz),←h.out]
theorem nF.done {N n p:Int} {l:List Int} (h:nF N n p l) (hn:n<=1):l=wA N:=by
 have h1:=h.n1
 have hn:n=1:=ω
 have hN:=h.nN;rw [h.out];unfold wA
 have e:((N.natAbs:Nat):Int)=N:=ω
 refine (wP (fun x h2 h3=>?_) (by have:=h.pN;omega)).symm;unfold rS
 cases hp:M.prime x
 ·rfl
 cases hd:(N % x == 0)
 ·rfl
 have hx:=oH.1 hp;have:=h.big x hx (by have:=h.p2;omega) (by simpa using hd);rw [hn] at this;have:=hx.1;have:(1:Int) % x=1:=Int.emod_eq_of_lt ω ω;omega
theorem FK {a p:Int} (hp:2<=p) (ha:a≠0) (h:a % p=0):(a / p).natAbs<a.natAbs/\a / p≠0:=by
 have he:=rk (n:=a) ω h
 have e2:a.natAbs=(a / p).natAbs*p.natAbs:=by rw [←Int.natAbs_mul,he]
 have hp':2<=p.natAbs:=ω
 have hne:a / p≠0:=by
  intro hz;rw [hz] at he;omega
 have:(a / p).natAbs*2<=(a / p).natAbs*p.natAbs:=Nat.mul_le_mul_left _ hp';exact ⟨ω,hne⟩
end M
namespace M
def sd (u4 u6:Int):Nat->Int->Int->Int × Int
 | 0,a,b=>(a,b)
 | f+1,a,b=>if a % u4=0/\b % u6=0/\(a≠0∨b≠0) then sd u4 u6 f (a / u4) (b / u6) else (a,b)
theorem El {u4 u6:Int} {f:Nat} {a b:Int} (hf:a.natAbs+b.natAbs<=f) (h:a % u4=0) (h':b % u6=0) (hn:a≠0∨b≠0):sd u4 u6 f a b=sd u4 u6 (f - 1) (a / u4) (b / u6):=by
 cases f with
 | zero=>omega
 | succ f=>simp [sd,h,h',hn]
theorem mC {a p:Int} (hp:2<=p) (h:a % p=0):(a / p).natAbs<=a.natAbs/\(a≠0->(a / p).natAbs<a.natAbs/\a / p≠0):=by
 by_cases ha:a=0
 ·subst ha;simp
 have:=FK hp ha h;exact ⟨ω,fun _=>this⟩
theorem Bg {u4 u6 a b:Int} (h4:2<=u4) (h6:2<=u6) (h:a % u4=0) (h':b % u6=0) (hn:a≠0∨b≠0) :
  (a / u4).natAbs+(b / u6).natAbs<a.natAbs+b.natAbs/\(a / u4≠0∨b / u6≠0):=by
 have h1:=mC h4 h;have h2:=mC h6 h'
 rcases hn with k | k
 ·have:=h1.2 k
  exact ⟨ω,Or.inl this.2⟩
 have:=h2.2 k;exact ⟨ω,Or.inr this.2⟩
def yI (u4 u6:Int) (x:Int × Int):Int × Int:=sd u4 u6 (x.1.natAbs+x.2.natAbs) x.1 x.2
def Re (x:Int × Int):Int × Int:=yI 16 64 x
def Sa (x:Int × Int):Int × Int:=yI 81 729 (Re x)
structure CI (u4 u6:Int) (p:Int × Int) (x y:Int):Prop where
 ne:x≠0∨y≠0
 bx:x.natAbs<=p.1.natAbs
 bY:y.natAbs<=p.2.natAbs
 st:∃ f,x.natAbs+y.natAbs<=f/\sd u4 u6 f x y=yI u4 u6 p
theorem CI.start {u4 u6 x y:Int} {p:Int × Int} (hp:(x,y)=p) (h:x≠0∨y≠0):CI u4 u6 p x y:=by
 subst hp;exact ⟨h,KT _,KT _,_,KT _,rfl⟩
theorem CI.step {u4 u6 x y:Int} {p:Int × Int} (h4:2<=u4) (h6:2<=u6) (h:CI u4 u6 p x y) (hx:x % u4=0) (hy:y % u6=0):CI u4 u6 p (x / u4) (y / u6):=by
 obtain ⟨f,hf,hs⟩:=h.st;have hsum:=Bg h4 h6 hx hy h.ne;have h1:=(mC h4 hx).1;have h2:=(mC h6 hy).1;refine ⟨hsum.2,Nat.le_trans h1 h.bx,Nat.le_trans h2 h.bY,f - 1,ω,?_⟩;rw [←El hf hx hy h.ne];exact hs
end M
namespace M
def iO (p:Int):Nat->Int
 | 0=>1
 | k+1=>iO p k*p
end M
namespace M
def Inc (l:List Int):Prop:=l.Pairwise (·<·)
theorem Inc.ext:∀ {l m:List Int},Inc l->Inc m->(∀ x,x ∈ l ↔ x ∈ m)->l=m
 | [],[],_,_,_=>rfl
 | [],y :: m,_,_,h=>absurd ((h y).2 List.mem_cons_self) σ
 | x :: l,[],_,_,h=>absurd ((h x).1 List.mem_cons_self) σ
 | x :: l,y :: m,h1,h2,h=>by
  obtain ⟨a1,b1⟩:=List.pairwise_cons.1 h1;obtain ⟨a2,b2⟩:=List.pairwise_cons.1 h2
  have hxy:x=y:=by
   rcases List.mem_cons.1 ((h x).1 List.mem_cons_self) with e | e
   ·exact e
   rcases List.mem_cons.1 ((h y).2 List.mem_cons_self) with e' | e'
   ·exact e'.symm
   have:=a1 y e';have:=a2 x e;omega
  subst hxy
  congr 1
  refine Inc.ext b1 b2 fun z=>⟨fun hz=>?_,fun hz=>?_⟩
  ·rcases List.mem_cons.1 ((h z).1 (List.mem_cons_of_mem _ hz)) with e | e
   ·have:=a1 z hz;omega
   exact e
  rcases List.mem_cons.1 ((h z).2 (List.mem_cons_of_mem _ hz)) with e | e
  ·have:=a2 z hz;omega
  exact e
def dB (xs:List Int) (n:Int):Nat:=(xs.takeWhile (decide <| ·<n)).length
def put (xs:List Int) (n:Int):List Int:=if xs[dB xs n]?=some n then xs else xs.take (dB xs n) ++ [n] ++ xs.drop (dB xs n)
end M
namespace M
def four (u:Int):Int:=u*u*u*u
def six (u:Int):Int:=u*u*u*u*u*u
def FV (a b u:Int):Bool:=decide (a % four u=0) && decide (b % six u=0)
def sm (a b:Int):Int:=if FV a b 5 then 5 else if FV a b 4 then 4 else if FV a b 3 then 3 else if FV a b 2 then 2 else 1
def SL (c d:Int × Int):Bool:=decide (c.1<d.1) || (decide (c.1=d.1) && decide (c.2<d.2))
theorem yW {c d:Int × Int}:SL c d=true ↔ c.1<d.1∨(c.1=d.1/\c.2<d.2):=by simp [SL]
theorem tG (c:Int × Int):SL c c=false:=by
 cases h:SL c c
 ·rfl
 rw [yW] at h;omega
theorem IL {a b c:Int × Int} (h1:SL a b=true) (h2:SL b c=true):SL a c=true:=by
 rw [yW] at *;omega
def FG (l:List (Int × Int)):Prop:=l.Pairwise (fun a b=>SL a b=true)
theorem FG.ext:∀ {l m:List (Int × Int)},FG l->FG m->(∀ x,x ∈ l ↔ x ∈ m)->l=m
 | [],[],_,_,_=>rfl
 | [],y :: m,_,_,h=>absurd ((h y).2 List.mem_cons_self) σ
 | x :: l,[],_,_,h=>absurd ((h x).1 List.mem_cons_self) σ
 | x :: l,y :: m,h1,h2,h=>by
  obtain ⟨a1,b1⟩:=List.pairwise_cons.1 h1;obtain ⟨a2,b2⟩:=List.pairwise_cons.1 h2
  have hxy:x=y:=by
   rcases List.mem_cons.1 ((h x).1 List.mem_cons_self) with e | e
   ·exact e
   rcases List.mem_cons.1 ((h y).2 List.mem_cons_self) with e' | e'
   ·exact e'.symm
   have:=IL (a1 y e') (a2 x e);rw [tG] at this;cases this
  subst hxy
  congr 1
  refine FG.ext b1 b2 fun z=>⟨fun hz=>?_,fun hz=>?_⟩
  ·rcases List.mem_cons.1 ((h z).1 (List.mem_cons_of_mem _ hz)) with e | e
   ·have:=a1 z hz;rw [e,tG] at this;cases this
   exact e
  rcases List.mem_cons.1 ((h z).2 (List.mem_cons_of_mem _ hz)) with e | e
  ·have:=a2 z hz;rw [e,tG] at this;cases this
  exact e
end M
end
section
open Go.RowKit open M Rw
theorem gL {w:World} {b1 b2 n1 n2 s1 s2:Nat} {t1 t2:TypeId} {v1 v2:Value} {x1 x2:List Value} (h1:w.ownsRow b1 t1 s1 v1 n1 x1) (h2:w.ownsRow b2 t2 s2 v2 n2 x2) (ht:t1≠t2):∀ g,v2.ownBlock=some g->v1.ownBlock≠some g:=by
 intro g hg hg'
 rcases h1.2 with ⟨rfl,-⟩ | ⟨g1,c1,QK,rfl,-,Nv,-⟩
 ·cases hg'
 rcases h2.2 with ⟨rfl,-⟩ | ⟨g2,c2,cur2,rfl,-,Nw,-⟩
 ·cases hg
 simp only [Value.ownBlock,Option.some.injEq] at hg hg';subst hg hg';rw [Nv] at Nw
 injection Nw with Nw
 injection Nw with _ ht' _
 exact ht ht'
namespace Rw
variable {α:Type} {E:Enc α} {w w':World} {base:Nat} {v:Value} {xs:List α}
theorem Own.Ju (E:Enc α) (x:α) (w:World) (base:Nat) (hb:base<=w.heap.size):Own E (w.alloc (.cells (E.cells x).toArray E.t)) base (.slice (some ⟨w,0,none⟩) 1 1) [x]:=
 ⟨by simp [E.len],.inr ⟨w,1,(E.cells x).toArray,rfl,hb,heap_alloc_new w _,KT 1,by unfold maxLen;omega,by simp [E.len],by simp [E.len,List.take_of_length_le]⟩⟩
theorem oJ {P:Program} {ts:TypeId} (F:Fits P E ts) (ty:TypeId) (ys:List α) (ad:Addr) (c:Nat)
  (hr:From E w (some ad) ys) (hown:Own E w base v xs) (hB:base<=w.heap.size) (hl:xs.length+ys.length<=100000000000) :
  ∃ v' w',(Builtin.append_ #[ts,ts] ty #[v,.slice (some ad) ys.length c]).run P w=.ok v' w'/\Own E w' base v' (xs ++ ys)/\w.grownBy w' v.ownBlock/\(v'.ownBlock=v.ownBlock∨v'.ownBlock=some w.heap.size):=by
 obtain ⟨i,z,hi,hz,hs,hby,hzc⟩:=F.info;have hbb:(xs.length+ys.length)*i.bytes<=140737488355328:=Nat.le_trans (Nat.mul_le_mul hl hby) ω
 obtain ⟨v',w',h1,h2,h3,-,h5⟩:=run_append_own_at (P:=P) w base ts ty E.t i z E.k i.bytes F.under hi hz hs rfl hzc E.pos v xs.length (xs.flatMap E.cells) hown ad ys.length c (ys.flatMap E.cells)
  (cr E ys) (fun j u hu=>by
   obtain ⟨ad',h1,h2⟩:=hr j u hu;obtain rfl:=Option.some.inj h1
   exact h2) (nO E ys) (by unfold maxLen;omega) hbb hB
 refine ⟨v',w',h1,?_,h3,h5⟩;exact U_
theorem sZ {P:Program} {ts:TypeId} (F:Fits P E ts) {ops:Array Oper} {rest:List Oper} {o:Oper} {a:Act} {Q:Exit->Act->World->Prop} (base:Nat) (ys xs:List α) (v:Value) (ad:Addr) (m c:Nat) (hm:ys.length=m) (hgd:o.guard=none) (s x:Operand)
  (ho:o.op=.call { callee:=.builtin .append,args:=#[s,x],argTypes:=#[ts,ts] }) (hs:a.eval s=v) (hx:a.eval x=.slice (some ad) m c)
  (hr:From E w (some ad) ys) (hown:Own E w base v xs) (hB:base<=w.heap.size) (hl:xs.length+ys.length<=100000000000)
  (h:∀ v' w',Own E w' base v' (xs ++ ys)->w.grownBy w' v.ownBlock->(v'.ownBlock=v.ownBlock∨v'.ownBlock=some w.heap.size)->wpList P ops Q rest (a.put o.dst v') w') :
  wpList P ops Q (o :: rest) a w:=by
 subst hm
 refine wpList_plain hgd fun _ hK=>?_
 obtain ⟨v',w',h1,h2,h3,h4⟩:=oJ F (w:=w) (base:=base) o.type ys ad c hr hown hB hl;unfold Oper.wp execOp;simp only [ho,resolve,invoke,builtin,Sem.run_bind,Sem.run_pure,Result.andThen_ok,List.map_toArray,List.map_cons,List.map_nil,hs,hx,h1];exact hK _ _ (h v' w' h2 h3 h4)
end Rw
def EI:Rw.Enc Int where
 t:=3
 k:=1
 cells:=fun c=>[.int .i64 c]
 len:=fun _=>rfl
 one:=fun x u hu=>by simp only [List.mem_singleton] at hu;subst hu;rfl
 pos:=δ
theorem HQ:Rw.Fits prog EI 41:=⟨Tryz.underlying41,by
 obtain ⟨i0,hi,hz0,hz1,hz2⟩:=info_parts mU
 exact ⟨i0,_,hi,hz0,hz1,ω,rfl⟩⟩
theorem DN (xs:List Int):xs.flatMap EI.cells=xs.map (Value.int .i64):=by
 induction xs with
 | nil=>rfl
 | cons x xs ih=>rw [List.flatMap_cons,ih];rfl
theorem dL {w:World} {base:Nat} {v:Value} {xs:List Int}:aF w base v xs ↔ Rw.Own EI w base v xs:=by
 unfold aF Rw.Own;rw [DN];rfl
theorem aF.cellAt {w:World} {base g n cap:Nat} {xs:List Int} (hn:n=xs.length) (h:aF w base (.slice (some ⟨g,0,none⟩) n cap) xs) {i:Nat} {t:Int} (ht:xs[i]?=some t):w.cell? ⟨g,i,none⟩=some (.int .i64 t):=by
 have hi:=(List.getElem?_eq_some_iff.1 ht).1;subst hn;have:=World.ownsRow.cellAt (g:=g) (cap:=cap) (n:=xs.length) h i ω;rw [this,List.getElem?_map,ht];rfl
end
section
open Go.RowKit Go.Shelf open M
theorem aF.setCells (base g cap n:Nat):∀ (l:List Int) (o:Nat) (w:World) (xs:List Int),n=xs.length->aF w base (.slice (some ⟨g,0,none⟩) n cap) xs->
  ∃ ys,aF (w.setCells g o (l.map (Value.int .i64))) base (.slice (some ⟨g,0,none⟩) n cap) ys/\ys.take o=xs.take o/\ys.length=xs.length/\w.grownBy (w.setCells g o (l.map (Value.int .i64))) (some g)
 | [],o,w,xs,_,h=>⟨xs,h,rfl,rfl,eK _ _⟩
 | x :: l,o,w,xs,hn,h=>by
  have h1:=aF.set (j:=o) hn h x rfl;obtain ⟨ys,k1,k2,k3,k4⟩:=aF.setCells base g cap n l (o+1) _ (xs.set o x) (by rw [List.length_set];exact hn) h1.1;refine ⟨ys,k1,?_,by rw [k3,List.length_set],dl h1.2 k4⟩;have:=congrArg (List.take o) k2;rw [List.take_take,List.take_take,Nat.min_eq_left ω] at this;rw [this,List.take_set,List.set_eq_of_length_le Np]
theorem aF.cut {w:World} {base g cap n:Nat} {xs:List Int} (hn:n=xs.length) (h:aF w base (.slice (some ⟨g,0,none⟩) n cap) xs) {i:Nat} (hi:i<=n) {ys:List Int} (hy:ys=xs.take i):aF w base (.slice (some ⟨g,0,none⟩) i cap) ys:=by
 subst hy hn;obtain ⟨h1,h2⟩:=h
 have hl:(xs.take i).length=i:=by rw [List.length_take];omega
 rcases h2 with ⟨e,-⟩ | ⟨g',cap',cur,e,hg,hh,hc,hm,hs,ht⟩
 ·cases e
 injection e with e1 e2 e3
 simp only [Option.some.injEq,Addr.mk.injEq,and_true] at e1;subst e1 e3;refine ⟨σ,Or.inr ⟨g,cap,cur,by rw [hl],hg,hh,ω,hm,hs,?_⟩⟩;have:=congrArg (List.take i) ht;rw [List.take_take,Nat.min_eq_left ω] at this;rw [hl,Nat.mul_one,this,List.map_take]
end
section
open Go.RowKit open M Rw
theorem vK {w:World} {base:Nat} {v:Value} {xs:List Int} (h:aF w base v xs):∃ A cap,v=.slice A xs.length cap/\∀ w',Below w w w'->∀ j y,xs[j]?=some y->∃ ad,A=some ad/\w'.cell? (ad.add j)=some (.int .i64 y):=by
 have hadd:∀ b i:Nat,(⟨b,0,none⟩:Addr).add i=⟨b,i,none⟩:=fun b i=>by unfold Addr.add;split <;> simp_all
 obtain ⟨a,cap,rfl,hm,hv⟩:=h.seen;refine ⟨a,cap,rfl,fun w' hb j y hy=>?_⟩;obtain ⟨g,x,e1,e2,e3,e4⟩:=hv j (List.getElem?_eq_some_iff.1 hy).1;obtain rfl:=Option.some.inj (e3.out.symm.trans hy);exact ⟨_,e1,by rw [hadd];exact (hb.cell (p:=⟨g,j,none⟩) e2).trans e4⟩
theorem uv (xs:List Int) (v:Value) (w:World) (base:Nat) (hown:aF w base v xs) (hl:xs.length<=1000000000) :
  Calls prog 176 #[v] w fun e w'=>∃ v',e=.returned v'/\aF w' w v' xs/\Below w w w':=by
 rcases hown.forms with ⟨rfl,rfl⟩ | ⟨g,cap,rfl,hg⟩
 ·have he:∀ W:World,(binOp .eql 41 (.slice none 0 0) (.slice none 0 0)).run prog W=.ok (.bool true) W:=fun _=>rfl
  go_enter func176,ntmps176
  go_wp2;go_ret;exact ⟨_,rfl,aF.nil _ _,KS _ _⟩
 obtain ⟨A,cap',e,hf⟩:=vK hown
 injection e with e1 e2 e3
 subst e1 e3;clear e2;have hf:=KO hf
 have he:∀ W:World,(binOp .eql 41 (.slice (some ⟨g,0,none⟩) xs.length cap) (.slice none 0 0)).run prog W=.ok (.bool false) W:=fun _=>rfl
 go_enter func176,ntmps176
 go_wp2_with (at_builtin;refine wC (W:=w) w xs [] _ (some ⟨g,0,none⟩) _ _ (by rfl) (by rfl) (.tmp 5) (.tmp 6) (by rfl) (by rfl) (by rfl) (hf.out _ LV) (aF.Ax _ _ (KT _)) LV σ (by simp;omega) ?_;rintro v1 w1 hown1 hb1)
 go_ret;exact ⟨_,rfl,hown1,hb1⟩
end
section
open Go.RowKit open M
namespace Gr
variable {w0 w w':World} {r:Option Nat}
theorem set {g:Nat} (h:w0.grownBy w (some g)) (o:Nat) (v:Value):w0.grownBy (w.setCell ⟨g,o,none⟩ v) (some g):=by
 refine ⟨h.os,h.tape,h.output,by simpa [World.setCell] using h.size,fun i hi hne=>?_⟩;exact (Below.heap_setCell _ _ _ _ (by rintro rfl;exact hne rfl)).trans (h.block i hi hne)
theorem oL (h:w0.grownBy w r) {p:Addr} (hp:w0.heap.size<=p.block) (v:Value):w0.grownBy (w.setCell p v) r:=by
 refine ⟨h.os,h.tape,h.output,by simpa [World.setCell] using h.size,fun i hi hne=>?_⟩;exact (Below.heap_setCell _ _ _ _ ω).trans (h.block i hi hne)
theorem frozen (hg:w.grownBy w' r) {a:Addr} (hl:a.block<w.heap.size) (hne:some a.block≠r):w'.frozen? a=w.frozen? a:=
 World.frozen?_of_block (hg.block _ hl hne)
theorem drew (h:w0.grownBy w r):w0.grownBy w.drew r:=mR h 1
theorem below {B:Nat} (h:w0.grownBy w r) (k:Below B w w') (hB:w.heap.size<=B):w0.grownBy w' r:=dl h (bT (k.mono hB) r)
theorem alloc (h:w0.grownBy w r) (o:Obj):w0.grownBy (w.alloc o) r:=dl h (World.grownBy_alloc w o r)
theorem iK {g b o:Nat} {v:Value} (hg:w.grownBy w' (some g)) (h:w.cell? ⟨b,o,none⟩=some v) (hn:b≠g):w'.cell? ⟨b,o,none⟩=some v:=
 hg.cell h (by simpa using hn)
theorem Ak {g b o:Nat} (hg:w.grownBy w' (some g)) (hs:b<w.heap.size) (h:w.frozen? ⟨b,o,none⟩=false) (hn:b≠g):w'.frozen? ⟨b,o,none⟩=false:=
 (frozen hg hs (by simpa using hn)).trans h
theorem ou {n:Nat} (hg:w.grownBy w' r) (h:n<w.heap.size):n<w'.heap.size:=Nat.lt_of_lt_of_le h hg.size
theorem I6 {W:World} {o o':Obj} {p:Addr} {v:Value} (h:(W.alloc o).cell? p=some v) (hp:p.block=W.heap.size->False):(W.alloc o').cell? p=some v:=by
 have hb:p.block<W.heap.size:=by
  have h1:=World.block_lt_of_cell? (W.alloc o) _ h;rw [KQ] at h1
  rcases Nat.lt_or_ge p.block W with h2 | h2
  ·exact h2
  exact (hp ω).elim
 have e1:=(Below.alloc (KS W W) (KT _) o).cell (p:=p) hb;have e2:=(Below.alloc (KS W W) (KT _) o').cell (p:=p) hb;rw [e2,←e1,h]
theorem Jj {W:World} {p q:Addr} {u v:Value} (h:W.cell? p=some v) (hp:p.block=q.block->False):(W.setCell q u).cell? p=some v:=
 (World.cell?_of_block (w:=W) (Below.heap_setCell _ _ _ _ hp)).trans h
theorem far2 {W:World} {p q q':Addr} {u u' v:Value} (h:W.cell? p=some v) (hp:p.block=q.block->False) (hp':p.block=q'.block->False):((W.setCell q u).setCell q' u').cell? p=some v:=Jj (Jj h hp) hp'
theorem GV {W:World} {o:Obj} {p:Addr} {v:Value} (h:W.cell? p=some v):(W.alloc o).cell? p=some v:=
 ((Below.alloc (KS W W) (KT _) o).cell (World.block_lt_of_cell? W _ h)).trans h
end Gr
structure Zb (w:World) (b:Nat):Prop where
 c0:w.cell? ⟨b,0,none⟩=some (.int .i64 0)
 c1:w.cell? ⟨b,1,none⟩=some (.int .i64 0)
 f0:w.frozen? ⟨b,0,none⟩=false
 f1:w.frozen? ⟨b,1,none⟩=false
 size:b<w.heap.size
theorem Zb.new (Y:World) (T:TypeId):Zb (Y.alloc (.cells #[(0:Int),(0:Int)] T)) Y.heap.size:=
 ⟨by rw [World.cell?_alloc_at _ _ _ _ rfl];rfl,by rw [World.cell?_alloc_at _ _ _ _ rfl];rfl,by simp [go_sem],by simp [go_sem],by rw [KQ];omega⟩
theorem Zb.keep {w w':World} {b:Nat} (h:Zb w b) (hb:Below w w w'):Zb w' b:=
 ⟨(hb.cell (p:=⟨b,0,none⟩) h.size).trans h.c0,(hb.cell (p:=⟨b,1,none⟩) h.size).trans h.c1,(hb.frozen (p:=⟨b,0,none⟩) h.size).trans h.f0,(hb.frozen (p:=⟨b,1,none⟩) h.size).trans h.f1,Nat.lt_of_lt_of_le h.size hb.size⟩
theorem Zb.bf {w w':World} {b g:Nat} (h:Zb w b) (hg:w.grownBy w' (some g)) (hn:b≠g):Zb w' b:=
 ⟨Gr.iK hg h.c0 hn,Gr.iK hg h.c1 hn,Gr.Ak hg h.size h.f0 hn,Gr.Ak hg h.size h.f1 hn,Gr.ou hg h.size⟩
theorem hlA {p:Prop} (h:p:=by (first | (with_reducible exact aE ψ ψ) | (with_reducible exact Gr.GV ψ) | (with_reducible refine Gr.I6 ψ ?_;(intro NI;(try simp only [KQ,bE,World.heap_drewN,aW] at NI);omega)) | (with_reducible refine Gr.far2 ψ ?_ ?_ <;> (intro NI;(try simp only [KQ,bE,World.heap_drewN,aW] at NI);omega)) | exact aE ψ ψ | (with_reducible exact Ft ψ ψ ψ))):p:=h
end
section
open Go.RowKit open Gr M
def ei (w:World) (B:Nat) (v:Value) (n:Nat):Prop:=
 ∃ (A:Option Addr) (cap:Nat),v=.slice A n cap/\(n:Int)<=9223372036854775807/\∀ j,j<n->∃ (g o:Nat) (b:Int),A=some ⟨g,o,none⟩/\g<B/\w.cell? ⟨g,o+j,none⟩=some (.int .u8 b)/\0<=b/\b<=255
structure Cur (w:World) (g B:Nat) (v:Value) (n k:Nat):Prop where
 bytes:ei w B v n
 lt:B<=g
 c0:w.cell? ⟨g,0,none⟩=some v
 c1:w.cell? ⟨g,1,none⟩=some (.int .i64 k)
 c2:∃ s:Int,w.cell? ⟨g,2,none⟩=some (.int .u64 s)
 f1:w.frozen? ⟨g,1,none⟩=false
 f2:w.frozen? ⟨g,2,none⟩=false
 size:g<w.heap.size
theorem ei.keep {w w':World} {B g n:Nat} {v:Value} (h:ei w B v n) (hg:w.grownBy w' (some g)) (hB:B<=g):ei w' B v n:=by
 obtain ⟨A,cap,e,hn,hb⟩:=h;refine ⟨A,cap,e,hn,fun j hj=>?_⟩;obtain ⟨gb,ob,b,e,hgb,hc,h1,h2⟩:=hb j hj;exact ⟨gb,ob,b,e,hgb,iK hg hc ω,h1,h2⟩
def jd (w:World) (g B:Nat) (v:Value) (n k m:Nat) (e:Ending) (w':World):Prop:=
 ∃ x:Int,e=.returned (.int .i64 x)/\(0<=x/\x<=m)/\Cur w' g B v n (k+1)/\w.grownBy w' (some g)
theorem jd.mk' {w w':World} {g B n k m:Nat} {v:Value} {x:Int} (h:Cur w g B v n k) (hx:0<=x/\x<=m) (hg:w.grownBy w' (some g)) (c0:w'.cell? ⟨g,0,none⟩=some v) (c1:w'.cell? ⟨g,1,none⟩=some (.int .i64 (k+1)))
  (c2:∃ s:Int,w'.cell? ⟨g,2,none⟩=some (.int .u64 s)) (f1:w'.frozen? ⟨g,1,none⟩=false) (f2:w'.frozen? ⟨g,2,none⟩=false):jd w g B v n k m (.returned (.int .i64 x)) w':=
 ⟨x,rfl,hx,⟨h.bytes.keep hg h.lt,h.lt,c0,by rw [c1];rfl,c2,f1,f2,ou hg h.size⟩,hg⟩
theorem low8 (X:Int):0<=wrap64 (bits BinOp.and IntKind.u64 X 255)/\wrap64 (bits BinOp.and IntKind.u64 X 255)<=((255:Nat):Int):=by
 have e:bits BinOp.and IntKind.u64 X 255=(((BitVec.ofInt 64 X).toNat &&& 255:Nat):Int):=by
  show IntKind.u64.wrap ((BitVec.ofInt 64 X &&& BitVec.ofInt 64 (255:Int)).toNat:Int)=_
  have h2:(BitVec.ofInt 64 (255:Int)).toNat=255:=δ
  rw [BitVec.toNat_and,h2,IntKind.wrap_u64];have:(BitVec.ofInt 64 X).toNat &&& 255<=255:=Nat.and_le_right;omega
 have h:(BitVec.ofInt 64 X).toNat &&& 255<=255:=Nat.and_le_right;rw [e,IntWalk.wrap64_in _ ω];omega
theorem Iq (g B:Nat) (v:Value) (n k:Nat) (w:World) (h:Cur w g B v n k) (hk:k<=1000000000) :
  Calls prog 110 #[.pointer (some ⟨g,0,none⟩)] w (jd w g B v n k 255):=by
 have hH:=KO h;obtain ⟨⟨A,cap,rfl,hn,hb⟩,h1,h2,h3,⟨s,h4⟩,h5,h6,h7⟩:=h
 by_cases hlt:k<n
 ·obtain ⟨gb,ob,b,rfl,hgb,hcb,b1,b2⟩:=hb k hlt
  clear hb
  have ne:gb≠g:=ω
  have ne':g≠gb:=ω
  go_enter func110,ntmps110
  go_wp2
  go_quiet (fail)
  go_wp2
  go_quiet (fail)
  go_wp2
  go_quiet (fail)
  go_wp2;go_ret;exact jd.mk' hH.out ⟨b1,b2⟩ (by repeat (first | exact World.grownBy.refl _ _ | refine Gr.alloc ?_ _ | refine Gr.drew ?_ | refine mR ?_ _ | refine Gr.below ?_ ψ (KT _) | refine dl ?_ ψ | refine Gr.set ?_ _ _ | refine oL ?_ Ug _)) (by simp [go_sem, *]) (by simp [go_sem, *]) ⟨_,by simp [go_sem, *];rfl⟩ (by simp [go_sem, *]) (by simp [go_sem, *])
 clear hb
 have hle:¬ k+1<=n:=ω
 go_enter func110,ntmps110
 go_wp2
 go_quiet (fail)
 go_wp2
 go_quiet (fail)
 go_wp2;go_ret;exact jd.mk' hH.out (low8 _) (by repeat (first | exact World.grownBy.refl _ _ | refine Gr.alloc ?_ _ | refine Gr.drew ?_ | refine mR ?_ _ | refine Gr.below ?_ ψ (KT _) | refine dl ?_ ψ | refine Gr.set ?_ _ _ | refine oL ?_ Ug _)) (by simp [go_sem, *]) (by simp [go_sem, *]) ⟨_,by simp [go_sem, *];rfl⟩ (by simp [go_sem, *]) (by simp [go_sem, *])
def dh (w:World) (g B:Nat) (v:Value) (n K:Nat):Prop:=∃ k,k<=K/\Cur w g B v n k
def uc (w:World) (g B:Nat) (v:Value) (n K:Nat) (lo hi:Int) (e:Ending) (w':World):Prop:=
 ∃ x:Int,e=.returned (.int .i64 x)/\(lo<=x/\x<=hi)/\dh w' g B v n K/\w.grownBy w' (some g)
theorem dh.size {w:World} {g B n K:Nat} {v:Value} (h:dh w g B v n K):g<w.heap.size:=h.elim fun _ h=>h.2.size
theorem dh.keep {w w':World} {g B n K:Nat} {v:Value} (h:dh w g B v n K) (hb:Below w w w'):dh w' g B v n K:=by
 obtain ⟨k,hk,h⟩:=h;have hg:=bT hb (some (w.heap.size+g+1));obtain ⟨s,hs⟩:=h.c2;have hl:=h.size;have hlt:=h.lt;refine ⟨k,hk,h.bytes.keep hg ω,h.lt,iK hg h.c0 ω,iK hg h.c1 ω,⟨s,iK hg hs ω⟩,Ak hg h.size h.f1 ω,Ak hg h.size h.f2 ω,ou hg h.size⟩
theorem dh.alloc {w:World} {g B n K:Nat} {v:Value} (h:dh w g B v n K) (o:Obj):dh (w.alloc o) g B v n K:=h.keep ((KS _ _).alloc (KT _) o)
theorem dh.mono {w:World} {g B n K K':Nat} {v:Value} (h:dh w g B v n K) (hK:K<=K'):dh w g B v n K':=by
 obtain ⟨k,hk,h⟩:=h;exact ⟨k,ω,h⟩
theorem tu (g B:Nat) (v:Value) (n K:Nat) (w:World) (h:dh w g B v n K) (hk:K<=1000000000) :
  Calls prog 110 #[.pointer (some ⟨g,0,none⟩)] w (uc w g B v n (K+1) 0 255):=by
 obtain ⟨k,hk',h⟩:=h;refine (Iq g B v n k w h ω).mono ?_;rintro e w' ⟨x,rfl,hx,hc,hg⟩;exact ⟨x,rfl,hx,⟨k+1,ω,hc⟩,hg⟩
theorem gt (g B:Nat) (v:Value) (n K:Nat) (m:Int) (w:World) (h:dh w g B v n K) (hk:K<=900000000) (h1:1<=m) (h2:m<=60000) :
  Calls prog 58 #[.pointer (some ⟨g,0,none⟩),m] w (uc w g B v n (K+2) 0 (m - 1)):=by
 by_cases c1:m<=1
 ·go_enter func58,ntmps58
  go_wp2;go_ret;exact ⟨0,rfl,ω,h.mono ω,eK _ _⟩
 by_cases c2:200<m
 ·go_enter func58,ntmps58
  go_wp2_with fail
  refine (tu g B v n K _ h ω).mono ?_;rintro e w1 ⟨x,rfl,⟨x1,x2⟩,hc1,hg1⟩
  go_wp2_with fail
  refine (tu g B v n (K+1) _ hc1 ω).mono ?_;rintro e w2 ⟨y,rfl,⟨y1,y2⟩,hc2,hg2⟩;go_wp2;go_ret;have hm:=ti (a:=x*256+y) (p:=m) ω;exact ⟨_,rfl,ω,hc2,dl hg1 hg2⟩
 go_enter func58,ntmps58
 go_wp2_with fail
 refine (tu g B v n K _ h ω).mono ?_;rintro e w1 ⟨x,rfl,⟨x1,x2⟩,hc1,hg1⟩;go_wp2;go_ret;have hm:=ti (a:=x) (p:=m) ω;exact ⟨_,rfl,ω,hc1.mono ω,hg1⟩
def FH (w:World) (g B:Nat) (v:Value) (n K:Nat) (e:Ending) (w':World):Prop:=
 ∃ b:Bool,e=.returned (.bool b)/\dh w' g B v n K/\w.grownBy w' (some g)
theorem Ha (g B:Nat) (v:Value) (n K:Nat) (m:Int) (w:World) (h:dh w g B v n K) (hk:K<=900000000) (h1:1<=m) (h2:m<=60000) :
  Calls prog 108 #[.pointer (some ⟨g,0,none⟩),m] w (FH w g B v n (K+2)):=by
 go_enter func108,ntmps108
 go_wp2_with fail
 refine (gt g B v n K m _ h hk h1 h2).mono ?_;rintro e w1 ⟨x,rfl,⟨x1,x2⟩,hc1,hg1⟩;go_wp2;go_ret;exact ⟨_,rfl,hc1,hg1⟩
theorem Zl {p:Prop} (h:p:=by obtain ⟨h1,h2,h3,h4,h5⟩:=h;exact ⟨by simp [go_sem, *],by simp [go_sem, *],by simp [go_sem, *],by simp [go_sem, *],by simp [go_sem, *]⟩):p:=h
structure MY (w:World) (b:Nat) (m n:Int):Prop where
 c0:w.cell? ⟨b,0,none⟩=some (.int .i64 m)
 c1:w.cell? ⟨b,1,none⟩=some (.int .i64 n)
 f0:w.frozen? ⟨b,0,none⟩=false
 f1:w.frozen? ⟨b,1,none⟩=false
 size:b<w.heap.size
theorem MY.keepR {w w':World} {b:Nat} {m n:Int} {r:Option Nat} (h:MY w b m n) (hg:w.grownBy w' r) (hn:some b≠r):MY w' b m n:=
 ⟨hg.cell h.c0 hn,hg.cell h.c1 hn,(Gr.frozen hg h.size hn).trans h.f0,(Gr.frozen hg h.size hn).trans h.f1,ou hg h.size⟩
theorem MY.bf {w w':World} {b g:Nat} {m n:Int} (h:MY w b m n) (hg:w.grownBy w' (some g)) (hn:b≠g):MY w' b m n:=h.keepR hg (by simpa using hn)
theorem MY.keep {w w':World} {b:Nat} {m n:Int} (h:MY w b m n) (hb:Below w w w'):MY w' b m n:=h.keepR (bT hb none) σ
theorem MY.alloc {w:World} {b:Nat} {m n:Int} (h:MY w b m n) (o:Obj):MY (w.alloc o) b m n:=h.keep ((KS _ _).alloc (KT _) o)
theorem MY.drew {w:World} {b:Nat} {m n:Int} (h:MY w b m n):MY w.drew b m n:=⟨h.c0,h.c1,h.f0,h.f1,h.size⟩
theorem MY.new (w:World) (m n:Int) (T:TypeId):MY (w.alloc (.cells #[m,n] T)) w m n:=
 ⟨by rw [World.cell?_alloc_at _ _ _ _ rfl];rfl,by rw [World.cell?_alloc_at _ _ _ _ rfl];rfl,by simp [go_sem],by simp [go_sem],by rw [KQ];omega⟩
theorem MY.store {w:World} {b:Nat} {m n:Int} (h:MY w b m n) (x y:Int):MY ((w.setCell ⟨b,0,none⟩ (.int .i64 x)).setCell ⟨b,1,none⟩ (.int .i64 y)) b x y:=by
 exact Zl
theorem dT (w:World) (c:Nat) (x y:Value):w.grownBy ((w.setCell ⟨c,0,none⟩ x).setCell ⟨c,1,none⟩ y) (some c):=Gr.set (Gr.set (eK w (some c)) 0 x) 1 y
theorem MY.other {w:World} {b c:Nat} {m n:Int} (h:MY w b m n) (hn:b≠c) (x y:Value):MY ((w.setCell ⟨c,0,none⟩ x).setCell ⟨c,1,none⟩ y) b m n:=h.bf (dT w c x y) hn
theorem dh.keepR {w w':World} {g B n K c:Nat} {v:Value} (h:dh w g B v n K) (hg:w.grownBy w' (some c)) (hc:g≠c) (hB:B<=c):dh w' g B v n K:=by
 obtain ⟨k,hk,h⟩:=h;obtain ⟨s,hs⟩:=h.c2;exact ⟨k,hk,h.bytes.keep hg hB,h.lt,iK hg h.c0 hc,iK hg h.c1 hc,⟨s,iK hg hs hc⟩,Ak hg h.size h.f1 hc,Ak hg h.size h.f2 hc,ou hg h.size⟩
structure St (w W:World) (g B:Nat) (v:Value) (n K:Nat):Prop where
 cur:dh W g B v n K
 gr:w.grownBy W (some g)
 lt:B<=g
theorem St.start {w:World} {g B n K:Nat} {v:Value} (h:dh w g B v n K):St w w g B v n K:=⟨h,eK _ _,h.elim fun _ h=>h.2.lt⟩
theorem St.call {w W W':World} {g B n K K':Nat} {v:Value} (h:St w W g B v n K) (hc:dh W' g B v n K') (hg:W.grownBy W' (some g)):St w W' g B v n K':=⟨hc,dl h.gr hg,h.lt⟩
theorem St.keep {w W W':World} {g B n K:Nat} {v:Value} (h:St w W g B v n K) (hb:Below W W W'):St w W' g B v n K:=⟨h.cur.keep hb,dl h.gr (bT hb _),h.lt⟩
theorem St.alloc {w W:World} {g B n K:Nat} {v:Value} (h:St w W g B v n K) (o:Obj):St w (W.alloc o) g B v n K:=h.keep ((KS _ _).alloc (KT _) o)
theorem St.store {w W:World} {g B n K c:Nat} {v:Value} (h:St w W g B v n K) (hc:w.heap.size<=c) (hg:g≠c) (hB:B<=c) (x y:Value):St w ((W.setCell ⟨c,0,none⟩ x).setCell ⟨c,1,none⟩ y) g B v n K:=
 ⟨h.cur.keepR (dT W c x y) hg hB,oL (oL h.gr hc _) hc _,h.lt⟩
theorem St.size {w W:World} {g B n K:Nat} {v:Value} (h:St w W g B v n K):g<W.heap.size:=h.cur.size
theorem St.le {w W:World} {g B n K:Nat} {v:Value} (h:St w W g B v n K):w.heap.size<=W.heap.size:=h.gr.size
theorem Ay (W:World) (T:TypeId) (l:List Int):∀ (j:Nat) (x:Int),l[j]?=some x->(W.alloc (.cells (l.map (Value.int .i64)).toArray T)).cell? ⟨W,j,none⟩=some (.int .i64 x):=fun j x h=>by
 rw [World.cell?_alloc_at _ _ _ _ rfl];simp [h]
instance {w W W':World} {g B n K:Nat} {v:Value}:HAdd (PLift (St w W g B v n K)) (PLift (Below W W W')) (PLift (St w W' g B v n K)):=⟨fun x h=>⟨x.down.keep h.down⟩⟩
end
section
open Go.RowKit open Gr M Rw Wh
theorem ZK {p:Prop} (h:p:=by
 have h2:=wT hk h;have hn:=du hls.out;refine ⟨?_,fun W b vc ho=>?_⟩
 ·rw [hs1.out]
  congr 1
  rw [decide_eq_decide,←h2];omega
 unfold af;rw [hs2.out,←h]
 exact ho):p:=h
theorem Zy {p:Prop} (h:p:=by
 cases hs:sl.ownBlock with
 | none=>exact Or.inl rfl
 | some g=>
 right
 intro e
 injection e with e
 have:=(aF.lt hoc g hs).1;omega):p:=h
def af (W:World) (base:Nat) (sl:Value) (z:Int):Prop:=aF W base sl (Wh.a_ z.natAbs)
theorem af.below {w w':World} {base:Nat} {v:Value} {z:Int} (h:af w base v z) (hb:Below w w w'):af w' base v z:=aF.below h hb
theorem af.base {w:World} {base base':Nat} {v:Value} {z:Int} (h:af w base v z) (hb:base'<=base):af w base' v z:=aF.base h hb
namespace Wh
theorem wV {l:List Int} {k:Nat} (hk:k<l.length) (h0:l[k]?=some 0):trim (l.take (k+1))=trim (l.take k):=by
 rw [List.take_add_one,h0];exact oW _
theorem sj {l:List Int} {k:Nat} {x:Int} (hx:l[k]?=some x) (h0:x≠0):trim (l.take (k+1))=l.take (k+1):=by
 rw [List.take_add_one,hx];exact si _ h0
theorem IU {n:Nat}:decide (0<(a_ n).length)=decide ((n:Int)≠0):=by
 rw [decide_eq_decide]
 constructor
 ·intro h h0
  rw [kZ.2 (by omega:n=0)] at h;exact absurd h δ
 intro h
 cases hd:a_ n with
 | nil=>exact absurd (kZ.1 hd) ω
 | cons x l=>exact Nat.succ_pos _
end Wh
structure bJ (w:World) (b:Nat) (u v:Value):Prop where
 c0:w.cell? ⟨b,0,none⟩=some u
 c1:w.cell? ⟨b,1,none⟩=some v
 f0:w.frozen? ⟨b,0,none⟩=false
 f1:w.frozen? ⟨b,1,none⟩=false
 size:b<w.heap.size
theorem bJ.keep {w w':World} {b:Nat} {u v:Value} (h:bJ w b u v) (hb:Below w w w'):bJ w' b u v:=
 have hg:=bT hb none
 ⟨hg.cell h.c0 σ,hg.cell h.c1 σ,(Gr.frozen hg h.size σ).trans h.f0,(Gr.frozen hg h.size σ).trans h.f1,ou hg h.size⟩
theorem bJ.new (w:World) (u v:Value) (T:TypeId):bJ (w.alloc (.cells #[u,v] T)) w u v:=
 ⟨by rw [World.cell?_alloc_at _ _ _ _ rfl];rfl,by rw [World.cell?_alloc_at _ _ _ _ rfl];rfl,by simp [go_sem],by simp [go_sem],by rw [KQ];omega⟩
theorem bJ.alloc {w:World} {b:Nat} {u v:Value} (h:bJ w b u v) (o:Obj):bJ (w.alloc o) b u v:=h.keep ((KS _ _).alloc (KT _) o)
theorem BU {w w2:World} {o:Obj} {sl:Value} {xs:List Int} (u:Value) (hoc:aF w2 (w.alloc o).heap.size sl xs) (hbc:Below (w.alloc o).heap.size (w.alloc o) w2) :
  aF ((w2.setCell ⟨w,0,none⟩ u).setCell ⟨w,1,none⟩ sl) w sl xs/\Below w w ((w2.setCell ⟨w,0,none⟩ u).setCell ⟨w,1,none⟩ sl):=by
 have hz:(w.alloc o).heap.size=w.heap.size+1:=KQ _ _;refine ⟨aF.base (World.ownsRow.kept hoc (dT w2 w u sl) ?_) ω,?_⟩
 ·exact Zy
 exact ((((KS _ _).alloc (KT _) o).trans (hbc.mono ω)).setCell (KT _) _).setCell (KT _) _
theorem aF.Jd {w:World} {base cap k:Nat} {a:Option Addr} {xs:List Int} (h:aF w base (.slice a xs.length cap) xs) (hk:k<=xs.length):aF w base (.slice a k cap) (xs.take k):=by
 rcases h.forms with ⟨e,rfl⟩ | ⟨g,cap',e,-⟩
 ·obtain rfl:k=0:=by simpa using hk
  exact h
 injection e with e1 e2 e3
 subst e1;exact aF.cut rfl h hk rfl
theorem Wh.wT {l:List Int} {k n:Nat} (hk:k<=l.length) (h:l.take k=Wh.a_ n):(n:Int)≠0 ↔ 0<k:=by
 have h1:=congrArg List.length h;rw [List.length_take,Nat.min_eq_left hk] at h1;have h2:=IU (n:=n);rw [decide_eq_decide,←h1] at h2;exact h2.symm
theorem Bo (neg:Bool) (ls:List Int) (v:Value) (w:World) (base:Nat) (hown:aF w base v ls) (h:Wh.bR ls) (hl:ls.length<=1000000) :
  Calls prog 157 #[neg,v] w fun e w'=>∃ sl,e=.returned (.agg #[decide (Wh.Lc neg (Wh.val ls)<0),sl])/\af w' w sl (Wh.Lc neg (Wh.val ls))/\Below w w w':=by
 obtain ⟨a,cap,rfl,hm,hv⟩:=hown.seen;have hv:=KO hv;have hgt:=KO (pW h);have hn:=du h;have hs1:=KO (zo (neg:=neg) hn);have hs2:=KO (uQ (neg:=neg) hn);have hls:=KO h;have hcp:=hown.cap;replace hown:=KO hown;clear hm hn h;have bx:=bJ.new w (.bool false) (.slice none 0 0) 145;go_enter func157,ntmps157
 go_wp2
 go_loopw [1] (fun vl wr=>∃ k:Nat,k<=ls.length/\vl=.slice a k cap/\Wh.trim (ls.take k)=Wh.trim ls/\wr=w.alloc (.cells #[false,.slice none 0 0] 145)) (fun vl _=>match vl with | .slice _ n _=>n | _=>0)
 case atStart=>exact ⟨ls.length,KT _,rfl,by rw [List.take_length],rfl⟩
 case round=>
 obtain ⟨k,hk,rfl,htr,rfl⟩:=hrel;have hown2:aF (w.alloc (.cells #[false,.slice none 0 0] 145)) base (.slice a k cap) (ls.take k):=(aF.Jd hown.out hk).alloc _
 have fin:ls.take k=Wh.a_ (Wh.val ls).toNat->Hid ((decide (Wh.Lc neg (Wh.val ls)<0)=(neg && decide (0<k)))/\∀ (W:World) (b:Nat) (vc:Value),aF W b vc (ls.take k)->af W b vc (Wh.Lc neg (Wh.val ls))):=fun h=>KO (by
  exact ZK)
 have PC:=fun W v h=>uv (ls.take k) v W base h Np
 have PC:=KO PC;have hown2:=KO hown2;have htr:=KO htr
 cases k with
 | zero=>
  have f2:=fin (by rw [←hgt.out,←htr.out];rfl);clear fin htr hgt;cases neg
  all_goals
   go_wp2_with ((with_reducible refine (PC.out _ _ hown2.out).mono ?_);rintro e w2 ⟨vc,rfl,hoc,hbc⟩;obtain ⟨ac,KX,rfl,hmc,LF⟩:=hoc.view;have LC:=bx.keep hbc;have c0:=LC.c0;have c1:=LC.c1;have g0:=LC.f0;have g1:=LC.f1;clear LF hmc)
   have hr:=BU (.bool false) hoc hbc;exact KU (v:=.agg #[false,.slice ac 0 KX]) results157 ⟨_,by rw [f2.out.1] <;> rfl,f2.out.2 _ _ _ hr.1,hr.2⟩
 | succ m=>
 obtain ⟨g,x,rfl,hg,hx,hcell⟩:=hv.out m ω
 by_cases h0:x=0
 ·subst h0
  have hct:=KO ((wV ω hx.out).symm.trans htr.out);clear fin htr;go_wp2
  go_roundw
  case rel=>exact ⟨m,ω,rfl,hct.out,by first | rfl | trivial⟩
  case measure=>simp
 have f2:=fin (by rw [←hgt.out,←htr.out,sj hx.out h0]);generalize ls.take (m+1)=L at *;clear fin htr hgt;cases neg
 ·go_wp2_with ((with_reducible refine (PC.out _ _ hown2.out).mono ?_);rintro e w2 ⟨vc,rfl,hoc,hbc⟩;obtain ⟨ac,KX,rfl,hmc,LF⟩:=hoc.view;have LC:=bx.keep hbc;have c0:=LC.c0;have c1:=LC.c1;have g0:=LC.f0;have g1:=LC.f1;clear LF hmc)
  have hr:=BU (.bool false) hoc hbc;exact KU (v:=.agg #[false,.slice ac L.length KX]) results157 ⟨_,by rw [f2.out.1] <;> rfl,f2.out.2 _ _ _ hr.1,hr.2⟩
 go_wp2_with ((with_reducible refine (PC.out _ _ hown2.out).mono ?_);rintro e w2 ⟨vc,rfl,hoc,hbc⟩;obtain ⟨ac,KX,rfl,hmc,LF⟩:=hoc.view;have LC:=bx.keep hbc;have c0:=LC.c0;have c1:=LC.c1;have g0:=LC.f0;have g1:=LC.f1;clear LF hmc)
 have hr:=BU (.bool true) hoc hbc;exact KU (v:=.agg #[true,.slice ac L.length KX]) results157 ⟨_,by rw [f2.out.1] <;> simp,f2.out.2 _ _ _ hr.1,hr.2⟩
instance {w w':World} {b:Nat} {u v:Value}:HAdd (PLift (bJ w b u v)) (PLift (Below w w w')) (PLift (bJ w' b u v)):=⟨fun x h=>⟨x.down.keep h.down⟩⟩
namespace Wh
theorem zu (z:Int):Lc (!decide (z<0)) z.natAbs=-z:=by
 unfold Lc
 by_cases h:z<0
 ·rw [decide_eq_true h];simp only [Bool.not_true,Bool.false_eq_true,if_false];omega
 rw [decide_eq_false h];simp only [Bool.not_false,if_true];omega
theorem ua {o:List Int} {m N:Int} (ho:bR o) (h:val o+10000 ^ o.length*m=N) (hm:0<m) (hN:N<=1000000000000000000):o.length<=4:=by
 have h1:=du ho
 by_cases h5:5<=o.length
 ·have h2:=ny h5
  have h3:=Int.mul_le_mul_of_nonneg_left (show 1<=m by omega) (Int.le_of_lt (pow_pos o.length))
  have h4:(10000:Int) ^ 5=100000000000000000000:=δ
  omega
 omega
theorem pZ {o:List Int} {m N:Int} (h:val o+10000 ^ o.length*m=N) (hm:0<=m):val (o ++ [m % 10000])+10000 ^ (o ++ [m % 10000]).length*(m / 10000)=N:=by
 rw [wZ,List.length_append,List.length_singleton,Int.pow_succ];have:=Int.mul_ediv_add_emod m 10000;generalize m / 10000=q,m % 10000=r at *
 grind
end Wh
theorem jO (z:Int) (neg:Bool) (ls:List Int) (v:Value) (w:World) (base:Nat) (hown:aF w base v ls) (h:Wh.bR ls) (hl:ls.length<=1000000) (hz:Wh.Lc neg (Wh.val ls)=z) :
  Calls prog 157 #[neg,v] w fun e w'=>∃ sl,e=.returned (.agg #[decide (z<0),sl])/\af w' w sl z/\Below w w w':=by
 subst hz;exact Bo neg ls v w base hown h hl
theorem dM {w w2:World} {sl:Value} {xs:List Int} (c base:Nat) (u:Value) (h1:w.heap.size<=c) (h2:c<base) (hoc:aF w2 base sl xs) (hB:Below w w w2) :
  aF ((w2.setCell ⟨c,0,none⟩ u).setCell ⟨c,1,none⟩ sl) w sl xs/\Below w w ((w2.setCell ⟨c,0,none⟩ u).setCell ⟨c,1,none⟩ sl):=by
 refine ⟨aF.base (World.ownsRow.kept hoc (dT w2 c u sl) ?_) ω,(hB.setCell h1 _).setCell h1 _⟩
 cases hs:sl.ownBlock with
 | none=>exact Or.inl rfl
 | some g=>
 right
 intro e
 injection e with e
 have:=(aF.lt hoc g hs).1;omega
theorem iW (w:World) (o o':Obj):((w.alloc o).alloc o').heap.size=w.heap.size+2:=by rw [KQ,KQ]
theorem bJ.new2 (w:World) (o:Obj) (u v:Value) (T:TypeId):bJ ((w.alloc o).alloc (.cells #[u,v] T)) (w.heap.size+1) u v:=by
 have:=bJ.new (w.alloc o) u v T
 rwa [KQ] at this
theorem ik (w:World) (u v:Value) (T:TypeId) (u2 v2:Value) (T2:TypeId) (u3 v3:Value) (T3:TypeId):∃ wc,((w.alloc (.cells #[u,v] T)).alloc (.cells #[u2,v2] T2)).alloc (.cells #[u3,v3] T3)=wc/\bJ wc w u v/\bJ wc (w.heap.size+1) u2 v2/\bJ wc (w.heap.size+1+1) u3 v3/\Below w w wc:=by
 have h3:=bJ.new2 (w.alloc (.cells #[u,v] T)) (.cells #[u2,v2] T2) u3 v3 T3;rw [KQ] at h3;exact ⟨_,rfl,((bJ.new w u v T).alloc _).alloc _,(bJ.new2 w _ u2 v2 T2).alloc _,h3,(((KS w w).alloc (KT _) _).alloc (by rw [KQ];omega) _).alloc (by rw [KQ,KQ];omega) _⟩
theorem np (z:Int) (sl:Value) (w:World) (base:Nat) (ho:af w base sl z) (hl:(Wh.a_ z.natAbs).length<=1000000) :
  Calls prog 132 #[.agg #[decide (z<0),sl]] w fun e w'=>∃ sl',e=.returned (.agg #[decide (-z<0),sl'])/\af w' w sl' (-z)/\Below w w w':=by
 have PT:=fun W v h=>jO (-z) (!decide (z<0)) (Wh.a_ z.natAbs) v W base h (bG _) hl (by rw [bS];exact zu z)
 obtain ⟨a,cap,rfl,hm,hv⟩:=aF.view ho;clear hm hv;have ho:=KO (show aF _ _ _ _ from ho);generalize -z=y,decide (z<0)=b at *;generalize (Wh.a_ z.natAbs).length=n,decide (y<0)=b' at *;have bz:=bJ.new2 w (.cells #[b,.slice a n cap] 145) (.bool false) (.slice none 0 0) 145;have hz2:=iW w (.cells #[b,.slice a n cap] 145) (.cells #[false,.slice none 0 0] 145);cases b
 all_goals
  simp only [Bool.not_true,Bool.not_false] at PT;have PT:=KO PT;go_enter func132,ntmps132
  go_wp2_with ((with_reducible refine (PT.out _ _ (aF.alloc (aF.alloc ho.out _) _)).mono ?_);rintro e w2 ⟨vc,rfl,hoc,hbc⟩;obtain ⟨ac,KX,rfl,hmc,LF⟩:=aF.view hoc;have LC:=bz.keep hbc;have c0:=LC.c0;have c1:=LC.c1;have g0:=LC.f0;have g1:=LC.f1;clear LF hmc)
  have hr:=dM (w:=w) (w.heap.size+1) _ (.bool b') ω (by rw [hz2];omega) hoc LV;generalize (Wh.a_ y.natAbs).length=n2 at *;exact KU results132 ⟨_,rfl,hr.1,hr.2⟩
theorem xB (z:Int) (sl:Value) (w:World) (base:Nat) (ho:af w base sl z) (hl:(Wh.a_ z.natAbs).length<=1000000) :
  Calls prog 185 #[.agg #[decide (z<0),sl]] w fun e w'=>∃ sl',e=.returned (.agg #[decide ((z.natAbs:Int)<0),sl'])/\af w' w sl' (z.natAbs:Int)/\Below w w w':=by
 have PT:=fun W v h=>jO (z.natAbs:Int) false (Wh.a_ z.natAbs) v W base h (bG _) hl (by rw [bS];rfl)
 obtain ⟨a,cap,rfl,hm,hv⟩:=aF.view ho;clear hm hv;have ho:=KO (show aF _ _ _ _ from ho);generalize decide (z<0)=b at *;generalize (z.natAbs:Int)=y at *;generalize (Wh.a_ z.natAbs).length=n,decide (y<0)=b' at *;have bz:=bJ.new2 w (.cells #[b,.slice a n cap] 145) (.bool false) (.slice none 0 0) 145;have hz2:=iW w (.cells #[b,.slice a n cap] 145) (.cells #[false,.slice none 0 0] 145);cases b
 all_goals
  have PT:=KO PT;go_enter func185,ntmps185
  go_wp2_with ((with_reducible refine (PT.out _ _ (aF.alloc (aF.alloc ho.out _) _)).mono ?_);rintro e w2 ⟨vc,rfl,hoc,hbc⟩;obtain ⟨ac,KX,rfl,hmc,LF⟩:=aF.view hoc;have LC:=bz.keep hbc;have c0:=LC.c0;have c1:=LC.c1;have g0:=LC.f0;have g1:=LC.f1;clear LF hmc)
  have hr:=dM (w:=w) (w.heap.size+1) _ (.bool b') ω (by rw [hz2];omega) hoc LV;generalize (Wh.a_ y.natAbs).length=n2 at *;exact KU results185 ⟨_,rfl,hr.1,hr.2⟩
theorem bJ.fF {w w':World} {b base:Nat} {u v:Value} (h:bJ w b u v) (hb:Below base w w') (hl:b<base):bJ w' b u v:=
 ⟨(hb.cell (p:=⟨b,0,none⟩) hl).trans h.c0,(hb.cell (p:=⟨b,1,none⟩) hl).trans h.c1,(hb.frozen (p:=⟨b,0,none⟩) hl).trans h.f0,(hb.frozen (p:=⟨b,1,none⟩) hl).trans h.f1,Nat.lt_of_lt_of_le h.size hb.size⟩
theorem bw (n:Int) (w:World) (h1:-1000000000000000000<=n) (h2:n<=1000000000000000000) :
  Calls prog 130 #[n] w fun e w'=>∃ sl,e=.returned (.agg #[decide (n<0),sl])/\af w' w sl n/\Below w w w':=by
 obtain ⟨k,hk⟩:∃ k:Nat,n.natAbs=k:=⟨_,rfl⟩
 have PT:=fun (o:List Int) (W:World) (v:Value) (base:Nat) (h:aF W base v o) (hl:Wh.bR o) (hv:Wh.val o=k) (hlen:o.length<=1000000)=>jO n (decide (n<0)) o v W base h hl hlen (by rw [hv,←hk];exact wR n)
 have hbd:(k:Int)<=1000000000000000000:=ω
 have bx:=bJ.new w (.bool false) (.slice none 0 0) 145
 by_cases hneg:n<0
 ·obtain rfl:n=-(k:Int):=ω
  have hk0:0<(k:Int):=ω
  have hdk:decide (-(k:Int)<0)=decide (0<k):=by rw [decide_eq_decide];omega
  rw [hdk] at PT ⊢;clear hdk;have PT:=KO PT;clear hk hneg h1 h2;go_enter func130,ntmps130
  go_wp2
  go_loopw [0,4] (fun vn vo wr=>∃ (m:Nat) (o:List Int),vn=.int .i64 m/\aF wr (w.heap.size+1) vo o/\Wh.bR o/\Wh.val o+10000 ^ o.length*(m:Int)=k/\m<=1000000000000000000/\o.length<=5/\Hid (bJ wr w (.bool false) (.slice none 0 0))/\Below w w wr) (fun vn _ _=>(intOf vn).toNat)
  case atStart=>exact ⟨k,[],rfl,aF.nil _ _,(fun x hx=>by cases hx),by simp [Wh.val],ω,σ,KO bx,(KS _ _).alloc (KT _) _⟩
  case round=>
  clear bx;obtain ⟨m,o,rfl,hown,hls,hvl,hm18,LZ,LT,hbr⟩:=hrel;have hls:=KO hls;have Ny:w.heap.size+1<=wr.heap.size:=LT.out.size
  by_cases hm0:0<m
  ·have hlen:=ua hls.out hvl ω ω
   have hst:=pZ hvl ω;rw [show ((m:Int) % 10000)=((m % 10000:Nat):Int) by omega,show ((m:Int) / 10000)=((m / 10000:Nat):Int) by omega] at hst;have hst:=KO hst;have hrb:m % 10000<10000:=Nat.mod_lt _ δ;have hqb:m / 10000<m:=Nat.div_lt_self hm0 δ
   have t1:Int.tmod (m:Int) 10000=((m % 10000:Nat):Int):=by rw [Int.tmod_eq_emod_of_nonneg ω];omega
   have t2:Int.tdiv (m:Int) 10000=((m / 10000:Nat):Int):=by rw [Int.tdiv_eq_ediv_of_nonneg ω];omega
   generalize m / 10000=q,m % 10000=r at *;have hl2:Hid (Wh.bR (o ++ [(r:Int)])):=KO (dO hls.out fun y hy=>by rw [List.mem_singleton] at hy;subst hy;unfold Wh.lim;omega);have hl3:Hid ((o ++ [(r:Int)]).length<=5):=KO (by rw [List.length_append];simp;omega);have hown:=KO hown;clear hvl
   go_wp2_with (at_builtin;refine dq (W:=wr) (w.heap.size+1) (r:Int) _ _ rfl (.tmp 15) (.tmp 18) rfl rfl rfl hown.out (KS _ _) ω ω ?_;rintro v6 w6 hown6 hb6)
   go_roundw
   case rel=>exact ⟨q,o ++ [(r:Int)],rfl,hown6,hl2.out,hst.out,ω,hl3.out,KO (LT.out.fF hb6 (Nat.lt_succ_self _)),hbr.trans (hb6.mono (Nat.le_succ _))⟩
   case measure=>simp [intOf];omega
  obtain rfl:m=0:=ω
  have Lj:Wh.val o=k:=by rw [←hvl];simp
  have Lj:=KO Lj;have hown:=KO hown;clear hvl
  go_wp2_with ((with_reducible refine (PT.out o _ _ _ hown.out hls.out Lj.out ω).mono ?_);rintro e w2 ⟨vc,rfl,hoc,hbc⟩;obtain ⟨ac,KX,rfl,hmc,LF⟩:=aF.view hoc;have LC:=LT.out.keep hbc;have c0:=LC.c0;have c1:=LC.c1;have g0:=LC.f0;have g1:=LC.f1;clear LF hmc)
  have hr:=dM (w:=w) w _ (.bool (decide (0<k))) (KT _) LT.out.size hoc (hbr.trans (hbc.mono ω))
  have en:(-(k:Int)).natAbs=k:=ω
  rw [en] at hr;generalize (Wh.a_ k).length=n2 at *;exact KU results130 ⟨_,rfl,by unfold af;rw [en];exact hr.1,hr.2⟩
 obtain rfl:n=(k:Int):=ω
 rw [decide_eq_false hneg] at PT ⊢;have PT:=KO PT;clear hk h1 h2
 have hng2:0<=(k:Int):=ω
 go_enter func130,ntmps130
 go_wp2
 go_loopw [0,4] (fun vn vo wr=>∃ (m:Nat) (o:List Int),vn=.int .i64 m/\aF wr (w.heap.size+1) vo o/\Wh.bR o/\Wh.val o+10000 ^ o.length*(m:Int)=k/\m<=1000000000000000000/\o.length<=5/\Hid (bJ wr w (.bool false) (.slice none 0 0))/\Below w w wr) (fun vn _ _=>(intOf vn).toNat)
 case atStart=>exact ⟨k,[],rfl,aF.nil _ _,(fun x hx=>by cases hx),by simp [Wh.val],ω,σ,KO bx,(KS _ _).alloc (KT _) _⟩
 case round=>
 clear bx;obtain ⟨m,o,rfl,hown,hls,hvl,hm18,LZ,LT,hbr⟩:=hrel;have hls:=KO hls;have Ny:w.heap.size+1<=wr.heap.size:=LT.out.size
 by_cases hm0:0<m
 ·have hlen:=ua hls.out hvl ω ω
  have hst:=pZ hvl ω;rw [show ((m:Int) % 10000)=((m % 10000:Nat):Int) by omega,show ((m:Int) / 10000)=((m / 10000:Nat):Int) by omega] at hst;have hst:=KO hst;have hrb:m % 10000<10000:=Nat.mod_lt _ δ;have hqb:m / 10000<m:=Nat.div_lt_self hm0 δ
  have t1:Int.tmod (m:Int) 10000=((m % 10000:Nat):Int):=by rw [Int.tmod_eq_emod_of_nonneg ω];omega
  have t2:Int.tdiv (m:Int) 10000=((m / 10000:Nat):Int):=by rw [Int.tdiv_eq_ediv_of_nonneg ω];omega
  generalize m / 10000=q,m % 10000=r at *;have hl2:Hid (Wh.bR (o ++ [(r:Int)])):=KO (dO hls.out fun y hy=>by rw [List.mem_singleton] at hy;subst hy;unfold Wh.lim;omega);have hl3:Hid ((o ++ [(r:Int)]).length<=5):=KO (by rw [List.length_append];simp;omega);have hown:=KO hown;clear hvl
  go_wp2_with (at_builtin;refine dq (W:=wr) (w.heap.size+1) (r:Int) _ _ rfl (.tmp 15) (.tmp 18) rfl rfl rfl hown.out (KS _ _) ω ω ?_;rintro v6 w6 hown6 hb6)
  go_roundw
  case rel=>exact ⟨q,o ++ [(r:Int)],rfl,hown6,hl2.out,hst.out,ω,hl3.out,KO (LT.out.fF hb6 (Nat.lt_succ_self _)),hbr.trans (hb6.mono (Nat.le_succ _))⟩
  case measure=>simp [intOf];omega
 obtain rfl:m=0:=ω
 have Lj:Wh.val o=k:=by rw [←hvl];simp
 have Lj:=KO Lj;have hown:=KO hown;clear hvl
 go_wp2_with ((with_reducible refine (PT.out o _ _ _ hown.out hls.out Lj.out ω).mono ?_);rintro e w2 ⟨vc,rfl,hoc,hbc⟩;obtain ⟨ac,KX,rfl,hmc,LF⟩:=aF.view hoc;have LC:=LT.out.keep hbc;have c0:=LC.c0;have c1:=LC.c1;have g0:=LC.f0;have g1:=LC.f1;clear LF hmc)
 have hr:=dM (w:=w) w _ (.bool false) (KT _) LT.out.size hoc (hbr.trans (hbc.mono ω))
 have en:(k:Int).natAbs=k:=ω
 rw [en] at hr;generalize (Wh.a_ k).length=n2 at *;exact KU results130 ⟨_,rfl,by unfold af;rw [en];exact hr.1,hr.2⟩
end
section
open Go.RowKit open M Rw
theorem Fw (xs:List Int) (v:Value) (w:World) (base:Nat) (hown:aF w base v xs) (hl:xs.length<=1000000000) :
  Calls prog 210 #[v] w fun e w'=>∃ v',e=.returned v'/\aF w' w v' xs/\Below w w w':=by
 obtain ⟨A,cap',rfl,hf⟩:=vK hown;have hf:=KO hf;go_enter func210,ntmps210
 go_wp2_with (at_builtin;refine wC (W:=w) w xs [] _ A _ _ (by rfl) (by rfl) (.tmp 3) (.tmp 4) (by rfl) (by rfl) (by rfl) (hf.out _ LV) (aF.Ax _ _ (KT _)) LV σ (by simp;omega) ?_;rintro v1 w1 hown1 hb1)
 go_ret;exact ⟨_,rfl,hown1,hb1⟩
end
section
open Go.RowKit open Gr M Rw Wh
theorem CZ (neg:Bool) (ls:List Int) (v:Value) (w:World) (base:Nat) (hown:aF w base v ls) (h:Wh.bR ls) (hl:ls.length<=1000000) :
  Calls prog 197 #[neg,v] w fun e w'=>∃ sl,e=.returned (.agg #[decide (Wh.Lc neg (Wh.val ls)<0),sl])/\af w' w sl (Wh.Lc neg (Wh.val ls))/\Below w w w':=by
 obtain ⟨a,cap,rfl,hm,hv⟩:=hown.seen;have hv:=KO hv;have hgt:=KO (pW h);have hn:=du h;have hs1:=KO (zo (neg:=neg) hn);have hs2:=KO (uQ (neg:=neg) hn);have hls:=KO h;have hcp:=hown.cap;replace hown:=KO hown;clear hm hn h;have bx:=bJ.new w (.bool false) (.slice none 0 0) 145;go_enter func197,ntmps197
 go_wp2
 go_loopw [5] (fun vl wr=>∃ k:Nat,k<=ls.length/\vl=.int .i64 k/\Wh.trim (ls.take k)=Wh.trim ls/\wr=w.alloc (.cells #[false,.slice none 0 0] 145)) (fun vl _=>(intOf vl).toNat)
 case atStart=>exact ⟨ls.length,KT _,rfl,by rw [List.take_length],rfl⟩
 case round=>
 obtain ⟨k,hk,rfl,htr,rfl⟩:=hrel;have hown2:aF (w.alloc (.cells #[false,.slice none 0 0] 145)) base (.slice a k cap) (ls.take k):=(aF.Jd hown.out hk).alloc _
 have fin:ls.take k=Wh.a_ (Wh.val ls).toNat->Hid ((decide (Wh.Lc neg (Wh.val ls)<0)=(neg && decide (0<k)))/\∀ (W:World) (b:Nat) (vc:Value),aF W b vc (ls.take k)->af W b vc (Wh.Lc neg (Wh.val ls))):=fun h=>KO (by
  exact ZK)
 have PC:=fun W v h=>Fw (ls.take k) v W base h Np
 have PC:=KO PC;have hown2:=KO hown2;have htr:=KO htr
 cases k with
 | zero=>
  have f2:=fin (by rw [←hgt.out,←htr.out];rfl);clear fin htr hgt;cases neg
  all_goals
   go_wp2_with ((with_reducible refine (PC.out _ _ hown2.out).mono ?_);rintro e w2 ⟨vc,rfl,hoc,hbc⟩;obtain ⟨ac,KX,rfl,hmc,LF⟩:=hoc.view;have LC:=bx.keep hbc;have c0:=LC.c0;have c1:=LC.c1;have g0:=LC.f0;have g1:=LC.f1;clear LF hmc)
   have hr:=BU (.bool false) hoc hbc;exact KU (v:=.agg #[false,.slice ac 0 KX]) results197 ⟨_,by rw [f2.out.1] <;> rfl,f2.out.2 _ _ _ hr.1,hr.2⟩
 | succ m=>
 obtain ⟨g,x,rfl,hg,hx,hcell⟩:=hv.out m ω
 by_cases h0:x=0
 ·subst h0
  have hct:=KO ((wV ω hx.out).symm.trans htr.out);clear fin htr;go_wp2
  go_roundw
  case rel=>exact ⟨m,ω,ν,hct.out,by first | rfl | trivial⟩
  case measure=>simp [intOf]
 have f2:=fin (by rw [←hgt.out,←htr.out,sj hx.out h0]);generalize ls.take (m+1)=L at *;clear fin htr hgt;cases neg
 ·go_wp2_with ((with_reducible refine (PC.out _ _ hown2.out).mono ?_);rintro e w2 ⟨vc,rfl,hoc,hbc⟩;obtain ⟨ac,KX,rfl,hmc,LF⟩:=hoc.view;have LC:=bx.keep hbc;have c0:=LC.c0;have c1:=LC.c1;have g0:=LC.f0;have g1:=LC.f1;clear LF hmc)
  have hr:=BU (.bool false) hoc hbc;exact KU (v:=.agg #[false,.slice ac L.length KX]) results197 ⟨_,by rw [f2.out.1] <;> rfl,f2.out.2 _ _ _ hr.1,hr.2⟩
 go_wp2_with ((with_reducible refine (PC.out _ _ hown2.out).mono ?_);rintro e w2 ⟨vc,rfl,hoc,hbc⟩;obtain ⟨ac,KX,rfl,hmc,LF⟩:=hoc.view;have LC:=bx.keep hbc;have c0:=LC.c0;have c1:=LC.c1;have g0:=LC.f0;have g1:=LC.f1;clear LF hmc)
 have hr:=BU (.bool true) hoc hbc;exact KU (v:=.agg #[true,.slice ac L.length KX]) results197 ⟨_,by rw [f2.out.1] <;> simp,f2.out.2 _ _ _ hr.1,hr.2⟩
theorem kW (z:Int) (neg:Bool) (ls:List Int) (v:Value) (w:World) (base:Nat) (hown:aF w base v ls) (h:Wh.bR ls) (hl:ls.length<=1000000) (hz:Wh.Lc neg (Wh.val ls)=z) :
  Calls prog 197 #[neg,v] w fun e w'=>∃ sl,e=.returned (.agg #[decide (z<0),sl])/\af w' w sl z/\Below w w w':=by
 subst hz;exact CZ neg ls v w base hown h hl
theorem nK (z:Int) (sl:Value) (w:World) (base:Nat) (ho:af w base sl z) (hl:(Wh.a_ z.natAbs).length<=1000000) :
  Calls prog 193 #[.agg #[decide (z<0),sl]] w fun e w'=>∃ sl',e=.returned (.agg #[decide (-z<0),sl'])/\af w' w sl' (-z)/\Below w w w':=by
 have PT:=fun W v h=>kW (-z) (!decide (z<0)) (Wh.a_ z.natAbs) v W base h (bG _) hl (by rw [bS];exact zu z)
 obtain ⟨a,cap,rfl,hm,hv⟩:=aF.view ho;clear hm hv;have ho:=KO (show aF _ _ _ _ from ho);generalize -z=y,decide (z<0)=b at *;generalize (Wh.a_ z.natAbs).length=n,decide (y<0)=b' at *;have bz:=bJ.new2 w (.cells #[b,.slice a n cap] 145) (.bool false) (.slice none 0 0) 145;have hz2:=iW w (.cells #[b,.slice a n cap] 145) (.cells #[false,.slice none 0 0] 145);cases b
 all_goals
  simp only [Bool.not_true,Bool.not_false] at PT;have PT:=KO PT;go_enter func193,ntmps193
  go_wp2_with ((with_reducible refine (PT.out _ _ (aF.alloc (aF.alloc ho.out _) _)).mono ?_);rintro e w2 ⟨vc,rfl,hoc,hbc⟩;obtain ⟨ac,KX,rfl,hmc,LF⟩:=aF.view hoc;have LC:=bz.keep hbc;have c0:=LC.c0;have c1:=LC.c1;have g0:=LC.f0;have g1:=LC.f1;clear LF hmc)
  have hr:=dM (w:=w) (w.heap.size+1) _ (.bool b') ω (by rw [hz2];omega) hoc LV;generalize (Wh.a_ y.natAbs).length=n2 at *;exact KU results193 ⟨_,rfl,hr.1,hr.2⟩
theorem YE {p:Prop} (h:p:=by
 have hlen:=ua hls.out hvl ω ω
 have hst:=pZ hvl ω;rw [show ((m:Int) % 10000)=((m % 10000:Nat):Int) by omega,show ((m:Int) / 10000)=((m / 10000:Nat):Int) by omega] at hst;have hst:=KO hst;have hrb:m % 10000<10000:=Nat.mod_lt _ δ;have hqb:m / 10000<m:=Nat.div_lt_self hm0 δ
 have t1:Int.tmod (m:Int) 10000=((m % 10000:Nat):Int):=by rw [Int.tmod_eq_emod_of_nonneg ω];omega
 have t2:Int.tdiv (m:Int) 10000=((m / 10000:Nat):Int):=by rw [Int.tdiv_eq_ediv_of_nonneg ω];omega
 generalize m / 10000=q,m % 10000=r at *;have hl2:Hid (Wh.bR (o ++ [(r:Int)])):=KO (dO hls.out fun y hy=>by rw [List.mem_singleton] at hy;subst hy;unfold Wh.lim;omega);have hl3:Hid ((o ++ [(r:Int)]).length<=5):=KO (by rw [List.length_append];simp;omega);have hown:=KO hown;clear hvl
 go_wp2_with (at_builtin;refine dq (W:=wr) (w.heap.size+1) (r:Int) _ _ rfl (.tmp 11) (.tmp 14) rfl rfl rfl hown.out (KS _ _) ω ω ?_;rintro v6 w6 hown6 hb6)
 go_roundw
 case rel=>exact ⟨q,o ++ [(r:Int)],rfl,hown6,hl2.out,hst.out,ω,hl3.out,KO (LT.out.fF hb6 (Nat.lt_succ_self _)),hbr.trans (hb6.mono (Nat.le_succ _))⟩
 case measure=>simp [intOf];omega):p:=h
theorem Z0 {p:Prop} (h:p:=by rw [en] at hr;generalize (Wh.a_ k).length=n2 at *;exact KU results173 ⟨_,rfl,by unfold af;rw [en];exact hr.1,hr.2⟩):p:=h
theorem qA (n:Int) (w:World) (h1:-1000000000000000000<=n) (h2:n<=1000000000000000000) :
  Calls prog 173 #[n] w fun e w'=>∃ sl,e=.returned (.agg #[decide (n<0),sl])/\af w' w sl n/\Below w w w':=by
 obtain ⟨k,hk⟩:∃ k:Nat,n.natAbs=k:=⟨_,rfl⟩
 have PT:=fun (o:List Int) (W:World) (v:Value) (base:Nat) (h:aF W base v o) (hl:Wh.bR o) (hv:Wh.val o=k) (hlen:o.length<=1000000)=>kW n (decide (n<0)) o v W base h hl hlen (by rw [hv,←hk];exact wR n)
 have PA:=fun W=>eP n W ω ω
 rw [hk] at PA
 have hbd:(k:Int)<=1000000000000000000:=ω
 have bx:=bJ.new w (.bool false) (.slice none 0 0) 145
 by_cases hneg:n<0
 ·obtain rfl:n=-(k:Int):=ω
  have hk0:0<(k:Int):=ω
  have hdk:decide (-(k:Int)<0)=decide (0<k):=by rw [decide_eq_decide];omega
  rw [hdk] at PT ⊢;clear hdk;have PT:=KO PT;have PA:=KO PA;clear hk hneg h1 h2;go_enter func173,ntmps173
  go_wp2_with (with_reducible refine Kw (PA.out _) ?_)
  go_loopw [3,4] (fun vo vn wr=>∃ (m:Nat) (o:List Int),vn=.int .i64 m/\aF wr (w.heap.size+1) vo o/\Wh.bR o/\Wh.val o+10000 ^ o.length*(m:Int)=k/\m<=1000000000000000000/\o.length<=5/\Hid (bJ wr w (.bool false) (.slice none 0 0))/\Below w w wr) (fun _ vn _=>(intOf vn).toNat)
  case atStart=>exact ⟨k,[],rfl,aF.nil _ _,(fun x hx=>by cases hx),by simp [Wh.val],ω,σ,KO bx,(KS _ _).alloc (KT _) _⟩
  case round=>
  clear bx;obtain ⟨m,o,rfl,hown,hls,hvl,hm18,LZ,LT,hbr⟩:=hrel;have hls:=KO hls;have Ny:w.heap.size+1<=wr.heap.size:=LT.out.size
  by_cases hm0:0<m
  ·exact YE
  obtain rfl:m=0:=ω
  have Lj:Wh.val o=k:=by rw [←hvl];simp
  have Lj:=KO Lj;have hown:=KO hown;clear hvl
  go_wp2_with ((with_reducible refine (PT.out o _ _ _ hown.out hls.out Lj.out ω).mono ?_);rintro e w2 ⟨vc,rfl,hoc,hbc⟩;obtain ⟨ac,KX,rfl,hmc,LF⟩:=aF.view hoc;have LC:=LT.out.keep hbc;have c0:=LC.c0;have c1:=LC.c1;have g0:=LC.f0;have g1:=LC.f1;clear LF hmc)
  have hr:=dM (w:=w) w _ (.bool (decide (0<k))) (KT _) LT.out.size hoc (hbr.trans (hbc.mono ω))
  have en:(-(k:Int)).natAbs=k:=ω
  exact Z0
 obtain rfl:n=(k:Int):=ω
 have PT:=KO PT;have PA:=KO PA;clear hk h1 h2
 have hng2:0<=(k:Int):=ω
 go_enter func173,ntmps173
 go_wp2_with (with_reducible refine Kw (PA.out _) ?_)
 go_loopw [3,4] (fun vo vn wr=>∃ (m:Nat) (o:List Int),vn=.int .i64 m/\aF wr (w.heap.size+1) vo o/\Wh.bR o/\Wh.val o+10000 ^ o.length*(m:Int)=k/\m<=1000000000000000000/\o.length<=5/\Hid (bJ wr w (.bool false) (.slice none 0 0))/\Below w w wr) (fun _ vn _=>(intOf vn).toNat)
 case atStart=>exact ⟨k,[],rfl,aF.nil _ _,(fun x hx=>by cases hx),by simp [Wh.val],ω,σ,KO bx,(KS _ _).alloc (KT _) _⟩
 case round=>
 clear bx;obtain ⟨m,o,rfl,hown,hls,hvl,hm18,LZ,LT,hbr⟩:=hrel;have hls:=KO hls;have Ny:w.heap.size+1<=wr.heap.size:=LT.out.size
 by_cases hm0:0<m
 ·exact YE
 obtain rfl:m=0:=ω
 have Lj:Wh.val o=k:=by rw [←hvl];simp
 have Lj:=KO Lj;have hown:=KO hown;clear hvl
 go_wp2_with ((with_reducible refine (PT.out o _ _ _ hown.out hls.out Lj.out ω).mono ?_);rintro e w2 ⟨vc,rfl,hoc,hbc⟩;obtain ⟨ac,KX,rfl,hmc,LF⟩:=aF.view hoc;have LC:=LT.out.keep hbc;have c0:=LC.c0;have c1:=LC.c1;have g0:=LC.f0;have g1:=LC.f1;clear LF hmc)
 have hr:=dM (w:=w) w _ (.bool (decide ((k:Int)<0))) (KT _) LT.out.size hoc (hbr.trans (hbc.mono ω))
 have en:(k:Int).natAbs=k:=ω
 exact Z0
theorem Lz {p:Prop} (h:p:=by
 clear hstep hst;go_wp2
 go_roundw
 case rel=>exact ⟨i+1,_,_,ω,ν,ν,hO.out.1,hS.out,Mt.out.setCell (KT _) _⟩
 case measure=>simp [intOf];omega):p:=h
def pi (W:World) (base:Nat) (v:Value) (z:Int) (n:Nat):Prop:=∃ o,aF W base v o/\Wh.bR o/\Wh.val o=z/\o.length<=n
theorem Dq (n:Nat):(madeCells (Value.int .i64 0).cells (n*1)).toList=(List.replicate n (0:Int)).map (Value.int .i64):=by
 show (madeCells #[Value.int .i64 0] (n*1)).toList=_
 rw [toList_madeCells_one,Nat.mul_one,List.map_replicate]
theorem sR (w:World) (n:Nat) (hn:n<=1000000000):∃ w1,(Instr.makeSlice 41 (.int .i64 (n:Int)) (.int .i64 (n:Int))).run prog w=.ok (.slice (some ⟨w,0,none⟩) n n) w1/\
  aF w1 w (.slice (some ⟨w,0,none⟩) n n) (List.replicate n 0)/\w.grownBy w1 none:=by
 obtain ⟨i0,hi,hz0,hz1,hz2⟩:=info_parts mU;obtain ⟨w1,h1,h2,h3⟩:=run_make_full (P:=prog) w w 41 3 i0 (.int .i64 0) 1 Tryz.underlying41 hi hz0 hz1 .i64 .i64 n (by rw [hz2];omega) (by unfold maxLen;omega) (KT _);refine ⟨w1,h1,?_,h3⟩;unfold aF;rw [←Dq,List.length_replicate];exact h2
theorem iz {w:World} {base g cap n:Nat} {l:List Int} (hl:l.length=n) (h:aF w base (.slice (some ⟨g,0,none⟩) n cap) l) (i:Nat):w.frozen? ⟨g,i,none⟩=false:=by
 unfold aF at h;rw [hl] at h;exact World.ownsRow.frozenAt h i
theorem wQ {l:List Int} {i n:Nat} (hl:l.length=i) (hi:i<n) (x:Int):l ++ [x] ++ List.replicate (n - (i+1)) 0=(l ++ List.replicate (n - i) 0).set i x:=by
 rw [List.set_append_right _ _ ω,hl,Nat.sub_self,show n - i=(n - (i+1))+1 by omega,List.replicate_succ,List.set_cons_zero];simp
theorem vf {l:List Int} {i n:Nat} (hl:l.length=i) (hi:i<n):(l ++ List.replicate (n - i) (0:Int))[i]?=some 0:=by
 rw [List.getElem?_append_right ω,hl,Nat.sub_self,List.getElem?_replicate,if_pos ω]
theorem vU {l:List Int} {i n:Nat} (hl:l.length=i) (hi:i<=n):(l ++ List.replicate (n - i) (0:Int)).length=n:=by
 rw [List.length_append,List.length_replicate];omega
theorem pt (xs ys:List Int) (s:Int) (va vb:Value) (w:World) (ba bb:Nat) (hs:s=1∨s=-1) (hoa:aF w ba va xs) (LN:aF w bb vb ys) (hla:Wh.bR xs) (hlb:Wh.bR ys) (hnn:0<=Wh.val xs+s*Wh.val ys) (hl1:xs.length<=100000) (hl2:ys.length<=100000) :
  Calls prog 158 #[va,vb,s] w fun e w'=>∃ v,e=.returned v/\pi w' w v (Wh.val xs+s*Wh.val ys) (xs.length+ys.length+1)/\Below w w w':=by
 obtain ⟨aa,y_,rfl,hma,hva⟩:=hoa.seen;obtain ⟨ab,Kk,rfl,hmb,hvb⟩:=LN.seen;have hva:=KO hva;have hvb:=KO hvb;have hla:=KO hla;have hlb:=KO hlb;have hnn:=KO hnn;clear hma hmb hoa LN
 by_cases hab:xs.length<ys.length
 ·obtain ⟨w1,hrun,hown1,hg1⟩:=sR w (ys.length+1) ω
  rw [show ((ys.length+1:Nat):Int)=(ys.length:Int)+1 by omega] at hrun;have hb1:Below w w w1:=cw hg1 (KT _) (fun k hk=>by cases hk);clear hg1;go_enter func158,ntmps158
  go_wp2
  go_loopw [8,9,10,20,46,51] (fun vc _ _ vi _ _ wr=>∃ (i:Nat) (o:List Int) (c:Int),i<=ys.length+1/\vi=.int .i64 i/\vc=.int .i64 c/\aF wr w (.slice (some ⟨w,0,none⟩) (ys.length+1) (ys.length+1)) (o ++ List.replicate (ys.length+1 - i) 0)/\ic xs ys s i o c/\Below w w wr) (fun _ _ _ vi _ _ _=>ys.length+1 - (intOf vi).toNat)
  case atStart=>exact ⟨0,[],0,ω,rfl,rfl,by simpa using hown1,ic.start xs ys s,hb1⟩
  case round=>
  clear hown1 hb1;obtain ⟨i,o,c,hi,rfl,rfl,hown,hai,hbr⟩:=hrel
  by_cases hlt:i<ys.length+1
  ·have hrg:=hai.rng hs hla.out hlb.out
   have hl0:=vU hai.len hi;have hc0:=aF.cellAt hl0.symm hown (vf hai.len hlt);have hf0:wr.frozen? ⟨w,i,none⟩=false:=iz hl0 hown i
   have hst:=KO fun x=>aF.set hl0.symm hown x (wQ hai.len hlt x)
   have hstep:=KO fun x c' h1 h2 h3 h4=>hai.step (x:=x) (c':=c') h1 h2 h3 h4
   have Ny:=hbr.size;have Mt:=KO hbr;clear hown hl0 hai
   by_cases ha:i<xs.length
   ·obtain ⟨ga,xa,ea,hga,hxa,hca⟩:=hva.out i ha
    subst ea;have hca:=aE hbr hca;rw [dp hxa.out] at hrg hstep;clear hxa
    by_cases hb:i<ys.length
    ·obtain ⟨gb,xb,eb,hgb,hxb,hcb⟩:=hvb.out i hb
     subst eb;have hcb:=aE hbr hcb;have hlx:=hlb.out xb (List.mem_of_getElem? hxb.out);unfold Wh.lim at hlx
     have hsx:-9999<=s*xb/\s*xb<=9999:=by rcases hs with rfl | rfl <;> omega
     rw [dp hxb.out] at hrg hstep;generalize hsb:s*xb=sb at *;clear hxb hlx
     by_cases hx0:c+xa+sb<0
     ·skip
      have hS:=hstep.out (c+xa+sb+10000) (-1) ⟨ω,ω⟩ ω ξ ξ;have hS:=KO hS;have hO:=KO (hst.out (c+xa+sb+10000));exact Lz
     by_cases hx1:10000<=c+xa+sb
     ·skip
      have hS:=hstep.out (c+xa+sb - 10000) (1) ⟨ω,ω⟩ ω ξ ξ;have hS:=KO hS;have hO:=KO (hst.out (c+xa+sb - 10000));exact Lz
     skip
     have hS:=hstep.out (c+xa+sb) (0) ⟨ω,ω⟩ ω ξ ξ;have hS:=KO hS;have hO:=KO (hst.out (c+xa+sb));exact Lz
    rw [dn (l:=ys) ω,Int.mul_zero] at hrg hstep
    exfalso;omega
   rw [dn ω] at hrg hstep
   by_cases hb:i<ys.length
   ·obtain ⟨gb,xb,eb,hgb,hxb,hcb⟩:=hvb.out i hb
    subst eb;have hcb:=aE hbr hcb;have hlx:=hlb.out xb (List.mem_of_getElem? hxb.out);unfold Wh.lim at hlx
    have hsx:-9999<=s*xb/\s*xb<=9999:=by rcases hs with rfl | rfl <;> omega
    rw [dp hxb.out] at hrg hstep;generalize hsb:s*xb=sb at *;clear hxb hlx
    by_cases hx0:c+sb<0
    ·skip
     have hS:=hstep.out (c+sb+10000) (-1) ⟨ω,ω⟩ ω ξ ξ;have hS:=KO hS;have hO:=KO (hst.out (c+sb+10000));exact Lz
    by_cases hx1:10000<=c+sb
    ·skip
     have hS:=hstep.out (c+sb - 10000) (1) ⟨ω,ω⟩ ω ξ ξ;have hS:=KO hS;have hO:=KO (hst.out (c+sb - 10000));exact Lz
    skip
    have hS:=hstep.out (c+sb) (0) ⟨ω,ω⟩ ω ξ ξ;have hS:=KO hS;have hO:=KO (hst.out (c+sb));exact Lz
   rw [dn (l:=ys) ω,Int.mul_zero] at hrg hstep
   by_cases hx0:c<0
   ·skip
    have hS:=hstep.out (c+10000) (-1) ⟨ω,ω⟩ ω ξ ξ;have hS:=KO hS;have hO:=KO (hst.out (c+10000));exact Lz
   by_cases hx1:10000<=c
   ·exfalso;omega
   skip
   have hS:=hstep.out (c) (0) ⟨ω,ω⟩ ω ξ ξ;have hS:=KO hS;have hO:=KO (hst.out (c));exact Lz
  obtain rfl:i=ys.length+1:=ω
  have hf:=hai.fin hs ω ω hnn.out (Wh.sum_lt hs hla.out hlb.out ω ω);have hlen:=hai.len;rw [Nat.sub_self] at hown;have hres:Hid (pi wr w (.slice (some ⟨w,0,none⟩) (ys.length+1) (ys.length+1)) (Wh.val xs+s*Wh.val ys) (xs.length+ys.length+1)):=KO ⟨o,by simpa using hown,hai.ls,hf.2,ω⟩;clear hown hai hf hlen;go_wp2;go_ret;exact ⟨_,rfl,hres.out,hbr⟩
 obtain ⟨w1,hrun,hown1,hg1⟩:=sR w (xs.length+1) ω;rw [show ((xs.length+1:Nat):Int)=(xs.length:Int)+1 by omega] at hrun;have hb1:Below w w w1:=cw hg1 (KT _) (fun k hk=>by cases hk);clear hg1;go_enter func158,ntmps158
 go_wp2
 go_loopw [8,9,10,20,46,51] (fun vc _ _ vi _ _ wr=>∃ (i:Nat) (o:List Int) (c:Int),i<=xs.length+1/\vi=.int .i64 i/\vc=.int .i64 c/\aF wr w (.slice (some ⟨w,0,none⟩) (xs.length+1) (xs.length+1)) (o ++ List.replicate (xs.length+1 - i) 0)/\ic xs ys s i o c/\Below w w wr) (fun _ _ _ vi _ _ _=>xs.length+1 - (intOf vi).toNat)
 case atStart=>exact ⟨0,[],0,ω,rfl,rfl,by simpa using hown1,ic.start xs ys s,hb1⟩
 case round=>
 clear hown1 hb1;obtain ⟨i,o,c,hi,rfl,rfl,hown,hai,hbr⟩:=hrel
 by_cases hlt:i<xs.length+1
 ·have hrg:=hai.rng hs hla.out hlb.out
  have hl0:=vU hai.len hi;have hc0:=aF.cellAt hl0.symm hown (vf hai.len hlt);have hf0:wr.frozen? ⟨w,i,none⟩=false:=iz hl0 hown i
  have hst:=KO fun x=>aF.set hl0.symm hown x (wQ hai.len hlt x)
  have hstep:=KO fun x c' h1 h2 h3 h4=>hai.step (x:=x) (c':=c') h1 h2 h3 h4
  have Ny:=hbr.size;have Mt:=KO hbr;clear hown hl0 hai
  by_cases ha:i<xs.length
  ·obtain ⟨ga,xa,ea,hga,hxa,hca⟩:=hva.out i ha
   subst ea;have hca:=aE hbr hca;rw [dp hxa.out] at hrg hstep;clear hxa
   by_cases hb:i<ys.length
   ·obtain ⟨gb,xb,eb,hgb,hxb,hcb⟩:=hvb.out i hb
    subst eb;have hcb:=aE hbr hcb;have hlx:=hlb.out xb (List.mem_of_getElem? hxb.out);unfold Wh.lim at hlx
    have hsx:-9999<=s*xb/\s*xb<=9999:=by rcases hs with rfl | rfl <;> omega
    rw [dp hxb.out] at hrg hstep;generalize hsb:s*xb=sb at *;clear hxb hlx
    by_cases hx0:c+xa+sb<0
    ·skip
     have hS:=hstep.out (c+xa+sb+10000) (-1) ⟨ω,ω⟩ ω ξ ξ;have hS:=KO hS;have hO:=KO (hst.out (c+xa+sb+10000));exact Lz
    by_cases hx1:10000<=c+xa+sb
    ·skip
     have hS:=hstep.out (c+xa+sb - 10000) (1) ⟨ω,ω⟩ ω ξ ξ;have hS:=KO hS;have hO:=KO (hst.out (c+xa+sb - 10000));exact Lz
    skip
    have hS:=hstep.out (c+xa+sb) (0) ⟨ω,ω⟩ ω ξ ξ;have hS:=KO hS;have hO:=KO (hst.out (c+xa+sb));exact Lz
   rw [dn (l:=ys) ω,Int.mul_zero] at hrg hstep
   by_cases hx0:c+xa<0
   ·skip
    have hS:=hstep.out (c+xa+10000) (-1) ⟨ω,ω⟩ ω ξ ξ;have hS:=KO hS;have hO:=KO (hst.out (c+xa+10000));exact Lz
   by_cases hx1:10000<=c+xa
   ·skip
    have hS:=hstep.out (c+xa - 10000) (1) ⟨ω,ω⟩ ω ξ ξ;have hS:=KO hS;have hO:=KO (hst.out (c+xa - 10000));exact Lz
   skip
   have hS:=hstep.out (c+xa) (0) ⟨ω,ω⟩ ω ξ ξ;have hS:=KO hS;have hO:=KO (hst.out (c+xa));exact Lz
  rw [dn ω] at hrg hstep
  by_cases hb:i<ys.length
  ·obtain ⟨gb,xb,eb,hgb,hxb,hcb⟩:=hvb.out i hb
   subst eb;have hcb:=aE hbr hcb;have hlx:=hlb.out xb (List.mem_of_getElem? hxb.out);unfold Wh.lim at hlx
   have hsx:-9999<=s*xb/\s*xb<=9999:=by rcases hs with rfl | rfl <;> omega
   rw [dp hxb.out] at hrg hstep;generalize hsb:s*xb=sb at *;clear hxb hlx
   exfalso;omega
  rw [dn (l:=ys) ω,Int.mul_zero] at hrg hstep
  by_cases hx0:c<0
  ·skip
   have hS:=hstep.out (c+10000) (-1) ⟨ω,ω⟩ ω ξ ξ;have hS:=KO hS;have hO:=KO (hst.out (c+10000));exact Lz
  by_cases hx1:10000<=c
  ·exfalso;omega
  skip
  have hS:=hstep.out (c) (0) ⟨ω,ω⟩ ω ξ ξ;have hS:=KO hS;have hO:=KO (hst.out (c));exact Lz
 obtain rfl:i=xs.length+1:=ω
 have hf:=hai.fin hs ω ω hnn.out (Wh.sum_lt hs hla.out hlb.out ω ω);have hlen:=hai.len;rw [Nat.sub_self] at hown;have hres:Hid (pi wr w (.slice (some ⟨w,0,none⟩) (xs.length+1) (xs.length+1)) (Wh.val xs+s*Wh.val ys) (xs.length+ys.length+1)):=KO ⟨o,by simpa using hown,hai.ls,hf.2,ω⟩;clear hown hai hf hlen;go_wp2;go_ret;exact ⟨_,rfl,hres.out,hbr⟩
end
section
open Go.RowKit open M
theorem Yi {p:Prop} (h:p:=by
 go_enter func162,ntmps162
 go_wp2
 go_quiet ((first | (with_reducible exact gI (E1.out _)) | (with_reducible exact fI (E1.out _)) | (with_reducible exact gI (E2.out _)) | (with_reducible exact fI (E2.out _))))
 go_wp2;go_ret;exact ⟨fm σ,LV⟩):p:=h
theorem Zr {p:Prop} (h:p:=by
 go_enter func104,ntmps104
 go_wp2_with (go_at_call 62;refine (dW _ _ _ _).mono ?_;rintro e w' ⟨rfl,rfl⟩)
 go_ret;exact ⟨fm σ,LV⟩):p:=h
noncomputable def iw (n d:Int):Bool:=M.ins d 1 1000000000 && M.ins n (-1000000000) 1000000000 && (M.gcd n d == 1)
theorem jE (n d:Int) (w:World) :
  cB 104 #[.agg #[n,d]] w (iw n d):=by
 unfold iw
 cases h1:M.ins d 1 1000000000
 ·exact Zr
 obtain ⟨d1,d2⟩:=jR h1
 cases h2:M.ins n (-1000000000) 1000000000
 ·exact Zr
 obtain ⟨n1,n2⟩:=jR h2;go_enter func104,ntmps104
 go_wp2_with (first | (go_at_call 62;refine (dW _ _ _ _).mono ?_;rintro e w' ⟨rfl,rfl⟩) | (go_at_call 97;refine (qR _ _ _ ω ω ω ω).mono ?_;rintro e w' ⟨rfl,mq,rfl⟩))
 go_ret;exact ⟨fm σ,LV⟩
theorem gI {P:Program} {f:FuncId} {args:Array Value} {w:World} {n:Nat} {v:Value} (h:Calls P f args (w.drewN n) fun e w'=>e=.returned v/\w.drewN n=w') :
  Calls P f args (w.drewN n) fun e w''=>e=.returned v/\∃ m,w''=w.drewN m:=h.mono fun _ _ ⟨he,hm⟩=>⟨he,n,hm.symm⟩
theorem fI {P:Program} {f:FuncId} {args:Array Value} {w:World} {a n:Nat} {v:Value} (h:Calls P f args (w.drewN (a+n)) fun e w'=>e=.returned v/\w.drewN (a+n)=w') :
  Calls P f args (w.drewN (a+n)) fun e w''=>e=.returned v/\∃ m,w''=w.drewN (a+m):=h.mono fun _ _ ⟨he,hm⟩=>⟨he,n,hm.symm⟩
theorem vH (n d:Int) (w:World) :
  cB 162 #[.agg #[n,d]] w (iw n d):=by
 unfold iw
 have E1:=fun w=>eW d 1 1000000000 w
 have E2:=fun w=>eW n (-1000000000) 1000000000 w
 have hgg:M.gcd n.natAbs d.natAbs=M.gcd n d:=by simp [M.gcd,Int.gcd]
 cases h1:M.ins d 1 1000000000 <;> simp only [h1] at E1 <;> have E1:=KO E1
 ·have E2:=KO E2
  exact Yi
 obtain ⟨d1,d2⟩:=jR h1
 cases h2:M.ins n (-1000000000) 1000000000 <;> simp only [h2] at E2 <;> have E2:=KO E2
 ·exact Yi
 obtain ⟨n1,n2⟩:=jR h2
 have hd:(d.natAbs:Int)=d:=ω
 rw [hd] at hgg;have hgg:=KO hgg;go_enter func162,ntmps162
 go_wp2
 go_quiet ((first | (first | (with_reducible exact gI (E1.out _)) | (with_reducible exact fI (E1.out _)) | (with_reducible exact gI (E2.out _)) | (with_reducible exact fI (E2.out _))) | (go_at_call 85;first | exact gI (eP _ _ ω ω) | exact fI (eP _ _ ω ω)) | (go_at_call 136;first | exact gI (eU _ _ _ ω ω ω ω) | exact fI (eU _ _ _ ω ω ω ω))))
 go_wp2;go_ret;exact ⟨fm (by simp [hgg.out]),LV⟩
end
section
open Go.RowKit open Gr M Rw Wh
theorem Uy {p:Prop} (h:p:=by first | (simp [intOf];done) | (simp [intOf];omega)):p:=h
theorem vQ (x:Int) (w:World):cP 203 #[x] w false:=by
 go_enter func203,ntmps203
 go_wp2;go_ret;exact ⟨σ,rfl⟩
theorem Cf (x y:Int) (w:World):cP 177 #[x,y] w (.int .i64 (Wh.LY x y)):=by
 unfold Wh.LY
 by_cases h1:x<y
 ·go_enter func177,ntmps177
  go_wp2_with (go_at_call 203;refine (vQ _ _).mono ?_;rintro e w' ⟨rfl,rfl⟩)
  go_ret;exact ⟨by simp [h1],rfl⟩
 by_cases h2:y<x
 all_goals
  go_enter func177,ntmps177
  go_wp2_with (go_at_call 203;refine (vQ _ _).mono ?_;rintro e w' ⟨rfl,rfl⟩)
  go_ret;exact ⟨by simp [h1,h2],rfl⟩
namespace Wh
theorem Gh {m n:Nat} (h:(a_ m).length≠(a_ n).length):LY ((a_ m).length:Int) ((a_ n).length:Int)=LY (m:Int) (n:Int):=by
 by_cases h':(a_ m).length<(a_ n).length
 ·have:=qL h'
  rw [oM ω,oM ω]
 have:=qL (m:=n) (n:=m) ω;rw [uP ω,uP ω]
end Wh
theorem gZ (m n:Nat) (b1 b2:Bool) (va vb:Value) (w:World) (ba bb:Nat) (hoa:aF w ba va (Wh.a_ m)) (LN:aF w bb vb (Wh.a_ n)) (hl1:(Wh.a_ m).length<=100000) (hl2:(Wh.a_ n).length<=100000) :
  cB 159 #[.agg #[b1,va],.agg #[b2,vb]] w (.int .i64 (Wh.LY (m:Int) (n:Int))):=by
 obtain ⟨aa,y_,rfl,hma,hva⟩:=hoa.seen;obtain ⟨ab,Kk,rfl,hmb,hvb⟩:=LN.seen;have hva:=KO hva;have hvb:=KO hvb;have hla:=KO (bG m);have hlb:=KO (bG n);have hv1:=KO (bS m);have hv2:=KO (bS n);clear hma hmb hoa LN;have bx:=(bJ.new w (.bool b1) (.slice aa (Wh.a_ m).length y_) 145).alloc (.cells #[b2,.slice ab (Wh.a_ n).length Kk] 145);have bz:=bJ.new2 w (.cells #[b1,.slice aa (Wh.a_ m).length y_] 145) (.bool b2) (.slice ab (Wh.a_ n).length Kk) 145
 by_cases hne:(Wh.a_ m).length=(Wh.a_ n).length
 ·generalize Wh.a_ m=xs at *
  generalize Wh.a_ n=ys at *;generalize hxl:xs.length=L at *;have hyl:=hne.symm;have hyl0:=KO hyl;rw [←hne] at bx bz hl2 hvb ⊢;clear hne hyl;have hyl:Hid (ys.length=L):=KO hyl0.out;have hxl:=KO hxl;go_enter func159,ntmps159
  go_wp2
  go_loopw [5] (fun vi wr=>∃ k:Nat,k<=L/\vi=.int .i64 ((k:Int) - 1)/\(∀ q:Nat,k<=q->q<L->Wh.nth xs q=Wh.nth ys q)/\Hid (bJ wr w (.bool b1) (.slice aa L y_))/\Hid (bJ wr (w.heap.size+1) (.bool b2) (.slice ab L Kk))/\Below w w wr) (fun vi _=>(intOf vi+1).toNat)
  case atStart=>exact ⟨L,KT _,rfl,fun q h1 h2=>ω,KO bx,KO bz,LV⟩
  case round=>
  clear bx bz;obtain ⟨k,hk,rfl,heq,LT,Nr,hbr⟩:=hrel;have heq:=KO heq
  cases k with
  | zero=>
   have hz:Hid (Wh.LY (m:Int) (n:Int)=0):=KO (by
    rw [←hv1.out,←hv2.out]
    exact Wh.cmp_eq (n:=L) (by rw [hxl.out];exact KT _) (by rw [hyl.out];exact KT _) fun q h=>heq.out q (Nat.zero_le _) h)
   go_wp2;go_ret;exact ⟨by rw [hz.out] <;> rfl,hbr⟩
  | succ j=>
  obtain ⟨ga,x,ea,hga,hxa,hca⟩:=hva.out j ω;obtain ⟨gb,y,eb,hgb,hxb,hcb⟩:=hvb.out j ω;subst ea eb;have hca:=aE hbr hca;have hcb:=aE hbr hcb;have d1:=LT.out.c1;have d2:=Nr.out.c1;have hnx:=KO (dp hxa.out);have hny:=KO (dp hxb.out)
  by_cases hxy:x=y
  ·subst hxy
   have heq2:Hid (∀ q:Nat,j<=q->q<L->Wh.nth xs q=Wh.nth ys q):=KO fun q h1 h2=>by
    by_cases hq:q=j
    ·subst hq;rw [hnx.out,hny.out]
    exact heq.out q ω h2
   go_wp2
   go_quiet (fail)
   go_wp2
   go_roundw
   case rel=>exact ⟨j,ω,ν,heq2.out,KO (LT.out.keep (aP (KS _ _) _)),KO (Nr.out.keep (aP (KS _ _) _)),aP hbr _⟩
   case measure=>exact Uy
  have hz:Hid (Wh.LY (m:Int) (n:Int)=Wh.LY x y):=KO (by
   rw [←hv1.out,←hv2.out]
   have l1:xs.length<=L:=by rw [hxl.out];exact KT _
   have l2:ys.length<=L:=by rw [hyl.out];exact KT _
   by_cases hlt:x<y
   ·rw [oM hlt]
    exact Ch hla.out hlb.out l1 l2 (i:=j) ω (fun q h1 h2=>heq.out q ω h2) (by rw [hnx.out,hny.out];exact hlt)
   rw [uP (x:=x) (y:=y) ω]
   exact Cg hla.out hlb.out l1 l2 (i:=j) ω (fun q h1 h2=>heq.out q ω h2) (by rw [hnx.out,hny.out];omega))
  have PC:=fun W=>Cf x y W
  generalize Wh.LY x y=z at *;have PC:=KO PC;go_wp2
  go_quiet (fail)
  go_wp2
  go_quiet ((first | (with_reducible exact gI (PC.out _)) | (with_reducible exact fI (PC.out _))))
  go_wp2;go_ret;exact ⟨by rw [hz.out] <;> rfl,aP (aP hbr _) _⟩
 have PC:=fun W=>Cf (Wh.a_ m).length (Wh.a_ n).length W
 rw [Gh hne] at PC;generalize Wh.LY (m:Int) (n:Int)=z at *;generalize (Wh.a_ n).length=l2,(Wh.a_ m).length=l1 at *;have PC:=KO PC;clear hva hvb hla hlb hv1 hv2;go_enter func159,ntmps159
 go_wp2_with (with_reducible refine Kw (PC.out _) ?_)
 go_ret;exact ⟨rfl,LV⟩
theorem Y9 {p:Prop} (h:p:=by have hr:=dM (w:=w) (w.heap.size+1+1) _ (.bool s) ω (Nat.lt_of_lt_of_le n3.size z4) hoc B5;generalize (Wh.a_ z.natAbs).length=ND at *;go_wp2;exact KU results131 ⟨_,rfl,hr.1,hr.2⟩):p:=h
theorem jN (z y:Int) (n:Nat) (neg:Bool) (v:Value) (w:World) (base:Nat) (ho:pi w base v y n) (hn:n<=1000000) (hz:Wh.Lc neg y=z) :
  Calls prog 157 #[neg,v] w fun e w'=>∃ sl,e=.returned (.agg #[decide (z<0),sl])/\af w' w sl z/\Below w w w':=by
 obtain ⟨o,h1,h2,h3,h4⟩:=ho;exact jO z neg o v w base h1 h2 ω (by rw [h3];exact hz)
theorem ak {W:World} {p:Addr} {v:Value} (h:W.cell? p=some v):(W.drew).cell? p=some v:=h
theorem bJ.store {w:World} {b:Nat} {u v:Value} (h:bJ w b u v) (x y:Value):bJ ((w.setCell ⟨b,0,none⟩ x).setCell ⟨b,1,none⟩ y) b x y:=by
 exact Zl
theorem bJ.other {w:World} {b c:Nat} {u v:Value} (h:bJ w b u v) (hn:b≠c) (x y:Value):bJ ((w.setCell ⟨c,0,none⟩ x).setCell ⟨c,1,none⟩ y) b u v:=
 have hg:=dT w c x y
 have hn':some b≠some c:=by simpa using hn
 ⟨hg.cell h.c0 hn',hg.cell h.c1 hn',(Gr.frozen hg h.size hn').trans h.f0,(Gr.frozen hg h.size hn').trans h.f1,ou hg h.size⟩
theorem bJ.drew {w:World} {b:Nat} {u v:Value} (h:bJ w b u v):bJ w.drew b u v:=⟨h.c0,h.c1,h.f0,h.f1,h.size⟩
namespace Wh
theorem add_same {a b:Int} {s:Bool} (ha:decide (a<0)=s) (hb:decide (b<0)=s):Lc s ((a.natAbs:Int)+1*(b.natAbs:Int))=a+b:=by
 cases s
 ·simp only [decide_eq_false_iff_not] at ha hb;exact VI
 simp only [decide_eq_true_eq] at ha hb;simp only [Lc,if_true];omega
theorem mE {a b:Int} {s:Bool} (ha:decide (a<0)=s) (hb:decide (b<0)=!s):Lc s ((a.natAbs:Int)+-1*(b.natAbs:Int))=a+b:=by
 cases s
 ·simp only [decide_eq_false_iff_not,Bool.not_false,decide_eq_true_eq] at ha hb;exact VI
 simp only [decide_eq_true_eq,Bool.not_true,decide_eq_false_iff_not] at ha hb;simp only [Lc,if_true];omega
end Wh
theorem ji (a b:Int) (va vb:Value) (w:World) (ba bb:Nat) (hoa:af w ba va a) (LN:af w bb vb b) (hl1:(Wh.a_ a.natAbs).length<=10000) (hl2:(Wh.a_ b.natAbs).length<=10000) :
  Calls prog 131 #[.agg #[decide (a<0),va],.agg #[decide (b<0),vb]] w fun e w'=>∃ sl,e=.returned (.agg #[decide (a+b<0),sl])/\af w' w sl (a+b)/\Below w w w':=by
 obtain ⟨aa,y_,rfl,-,-⟩:=aF.view hoa;obtain ⟨ab,Kk,rfl,-,-⟩:=aF.view LN
 have PA:=fun s hs h0 W h1 h2=>pt (Wh.a_ a.natAbs) (Wh.a_ b.natAbs) s (.slice aa (Wh.a_ a.natAbs).length y_) (.slice ab (Wh.a_ b.natAbs).length Kk) W ba bb hs h1 h2 (bG _) (bG _) h0 ω ω
 rw [bS,bS] at PA
 have PT:=fun s y (h:Wh.Lc s y=a+b) W v base ho=>jN (a+b) y ((Wh.a_ a.natAbs).length+(Wh.a_ b.natAbs).length+1) s v W base ho ω h
 have Na:Hid (∀ W,Below w w W->aF W ba (.slice aa (Wh.a_ a.natAbs).length y_) (Wh.a_ a.natAbs)):=KO fun W h=>aF.below hoa h
 have O3:Hid (∀ W,Below w w W->aF W bb (.slice ab (Wh.a_ b.natAbs).length Kk) (Wh.a_ b.natAbs)):=KO fun W h=>aF.below LN h
 obtain ⟨s1,hs1⟩:∃ s,decide (a<0)=s:=⟨_,rfl⟩
 obtain ⟨s2,hs2⟩:∃ s,decide (b<0)=s:=⟨_,rfl⟩
 clear hoa LN
 by_cases hss:s1=s2
 ·subst hss
  have PT:=KO (PT s1 _ (Wh.add_same hs1 hs2));have PA:=KO (PA 1 (Or.inl rfl) ω);rw [hs1,hs2];clear hs1 hs2;generalize (a.natAbs:Int)+1*(b.natAbs:Int)=y at *;generalize Wh.a_ b.natAbs=ys,Wh.a_ a.natAbs=xs,a+b=z at *;generalize decide (z<0)=s,ys.length=l2,xs.length=l1 at *;obtain ⟨w3,hw3,b1,b2,b3,hB⟩:=ik w (.bool s1) (.slice aa l1 y_) 145 (.bool s1) (.slice ab l2 Kk) 145 (.bool false) (.slice none 0 0) 145;have e1:=b1.c0;have e2:=b1.c1;have e3:=b2.c0;have e4:=b2.c1;go_enter func131,ntmps131
  go_wp2
  go_region_held3 (fun W=>W.cell? ⟨w,0,none⟩=some (.bool s1)/\W.cell? ⟨w,1,none⟩=some (.slice aa l1 y_)/\W.cell? ⟨w.heap.size+1,0,none⟩=some (.bool s1)/\W.cell? ⟨w.heap.size+1,1,none⟩=some (.slice ab l2 Kk)) (first | exact ⟨hlA,hlA,hlA,hlA⟩ | (go_split_ands;exact ⟨hlA,hlA,hlA,hlA⟩) | go_keep) ((first
   | ((with_reducible refine (PA.out _ (Na.out _ hB.drew) (O3.out _ hB.drew)).mono ?_);rintro e w4 ⟨v4,rfl,Ks,hb4⟩;have B4:=hB.drew.trans (hb4.mono hB.size);have r4:=b3.drew.keep hb4;have MH:=aE hb4 (ak e1);have NG:=aE hb4 (ak e2);have Oe:=aE hb4 (ak e3);have Pk:=aE hb4 (ak e4);(have z4:w3.heap.size<=w4.heap.size:=hb4.size))
   | ((with_reducible refine (PT.out _ _ _ Ks).mono ?_);rintro e w5 ⟨vc,rfl,hoc,hbc⟩;obtain ⟨ac,KX,rfl,hmc,LF⟩:=aF.view hoc;have B5:=p_ B4 hbc;have r5:=r4.keep hbc;have c0:=r5.c0;have c1:=r5.c1;have g0:=r5.f0;have g1:=r5.f1;have Pl:=aE hbc MH;have Qj:=aE hbc NG;have Sd:=aE hbc Oe;have Vn:=aE hbc Pk;clear LF hmc)
   | fail "ARMS"))
  all_goals
   have hr:=dM (w:=w) (w.heap.size+1+1) _ (.bool s) ω (Nat.lt_of_lt_of_le b3.size z4) hoc B5;generalize (Wh.a_ z.natAbs).length=n2 at *;go_wp2;exact KU results131 ⟨_,rfl,hr.1,hr.2⟩
 have PA':=fun s hs h0 W h1 h2=>pt (Wh.a_ b.natAbs) (Wh.a_ a.natAbs) s (.slice ab (Wh.a_ b.natAbs).length Kk) (.slice aa (Wh.a_ a.natAbs).length y_) W bb ba hs h1 h2 (bG _) (bG _) h0 ω ω
 rw [bS,bS] at PA'
 have VO:=fun s y (h:Wh.Lc s y=a+b) W v base ho=>jN (a+b) y ((Wh.a_ b.natAbs).length+(Wh.a_ a.natAbs).length+1) s v W base ho ω h
 obtain rfl:s2=!s1:=by cases s1 <;> cases s2 <;> simp_all
 have hsn:(s1 == !s1)=false:=by cases s1 <;> rfl
 clear hss;have hd:=mE (a:=a) (b:=b) hs1 hs2;have hd':=mE (a:=b) (b:=a) hs2 (by rw [Bool.not_not];exact hs1);rw [Int.add_comm b a] at hd'
 have PM:=fun W h1 h2=>gZ a.natAbs b.natAbs s1 (!s1) (.slice aa (Wh.a_ a.natAbs).length y_) (.slice ab (Wh.a_ b.natAbs).length Kk) W ba bb h1 h2 ω ω
 rw [hs1,hs2];clear hs1 hs2
 by_cases hlt:a.natAbs<b.natAbs
 ·skip
  have PT:=KO (VO (!s1) _ hd');have PA:=KO (PA' (-1) (Or.inr rfl) ω);rw [oM ω] at PM;have PM:=KO PM;clear hlt hd hd';generalize (b.natAbs:Int)+-1*(a.natAbs:Int)=y at *;generalize Wh.a_ b.natAbs=ys,Wh.a_ a.natAbs=xs,a+b=z at *;generalize decide (z<0)=s,ys.length=l2,xs.length=l1 at *;obtain ⟨w3,hw3,b1,b2,b3,hB⟩:=ik w (.bool s1) (.slice aa l1 y_) 145 (.bool (!s1)) (.slice ab l2 Kk) 145 (.bool false) (.slice none 0 0) 145;have i1:=b1.c0;have i2:=b1.c1;have i3:=b2.c0;have i4:=b2.c1;go_enter func131,ntmps131
  go_wp2_with (with_reducible refine Km (PM.out _ (Na.out _ hB) (O3.out _ hB)) fun wm MR=>?_;have m1:=b1.keep MR;have m2:=b2.keep MR;have m3:=b3.keep MR;have j1:=m1.c0;have j2:=m1.c1;have j3:=m2.c0;have j4:=m2.c1;have k1:=m1.f0;have k2:=m1.f1;have k3:=m2.f0;have k4:=m2.f1;have Bm:=p_ hB MR)
  have n1:=(m1.store (.bool (!s1)) (.slice ab l2 Kk)).other (c:=w.heap.size+1) ω (.bool s1) (.slice aa l1 y_);have n2:=(m2.other (c:=w.heap.size) ω (.bool (!s1)) (.slice ab l2 Kk)).store (.bool s1) (.slice aa l1 y_);have n3:=(m3.other (c:=w.heap.size) ω (.bool (!s1)) (.slice ab l2 Kk)).other (c:=w.heap.size+1) ω (.bool s1) (.slice aa l1 y_);have Bn:=(((Bm.setCell (p:=⟨w,0,none⟩) (KT _) (.bool (!s1))).setCell (p:=⟨w,1,none⟩) (KT _) (.slice ab l2 Kk)).setCell (p:=⟨w.heap.size+1,0,none⟩) (Nat.le_succ _) (.bool s1)).setCell (p:=⟨w.heap.size+1,1,none⟩) (Nat.le_succ _) (.slice aa l1 y_);generalize hwn:((((wm.setCell ⟨w,0,none⟩ (.bool (!s1))).setCell ⟨w,1,none⟩ (.slice ab l2 Kk)).setCell ⟨w.heap.size+1,0,none⟩ (.bool s1)).setCell ⟨w.heap.size+1,1,none⟩ (.slice aa l1 y_))=wn at *;clear i1 i2 i3 i4 j1 j2 j3 j4 k1 k2 k3 k4 m1 m2 m3 b1 b2 b3 MR;have e1:=n1.c0;have e2:=n1.c1;have e3:=n2.c0;have e4:=n2.c1
  go_region_held3 (fun W=>W.cell? ⟨w,0,none⟩=some (.bool (!s1))/\W.cell? ⟨w,1,none⟩=some (.slice ab l2 Kk)/\W.cell? ⟨w.heap.size+1,0,none⟩=some (.bool s1)/\W.cell? ⟨w.heap.size+1,1,none⟩=some (.slice aa l1 y_)) (first | exact ⟨hlA,hlA,hlA,hlA⟩ | (go_split_ands;exact ⟨hlA,hlA,hlA,hlA⟩) | go_keep) ((first
   | ((with_reducible refine (PA.out _ (O3.out _ Bn.drew) (Na.out _ Bn.drew)).mono ?_);rintro e w4 ⟨v4,rfl,Ks,hb4⟩;have B4:=Bn.drew.trans (hb4.mono Bn.size);have r4:=n3.drew.keep hb4;have MH:=aE hb4 (ak e1);have NG:=aE hb4 (ak e2);have Oe:=aE hb4 (ak e3);have Pk:=aE hb4 (ak e4);(have z4:wn.heap.size<=w4.heap.size:=hb4.size))
   | ((with_reducible refine (PT.out _ _ _ Ks).mono ?_);rintro e w5 ⟨vc,rfl,hoc,hbc⟩;obtain ⟨ac,KX,rfl,hmc,LF⟩:=aF.view hoc;have B5:=p_ B4 hbc;have r5:=r4.keep hbc;have c0:=r5.c0;have c1:=r5.c1;have g0:=r5.f0;have g1:=r5.f1;have Pl:=aE hbc MH;have Qj:=aE hbc NG;have Sd:=aE hbc Oe;have Vn:=aE hbc Pk;clear LF hmc)
   | fail "ARMS"))
  all_goals
   exact Y9
 skip
 have PT:=KO (PT s1 _ hd);have PA:=KO (PA (-1) (Or.inr rfl) ω)
 have hr0:¬ Wh.LY (a.natAbs:Int) (b.natAbs:Int)<0:=by unfold Wh.LY;rw [if_neg ω];split <;> omega
 generalize Wh.LY (a.natAbs:Int) (b.natAbs:Int)=rr at *;have PM:=KO PM;clear hlt hd hd';generalize (a.natAbs:Int)+-1*(b.natAbs:Int)=y at *;generalize Wh.a_ b.natAbs=ys,Wh.a_ a.natAbs=xs,a+b=z at *;generalize decide (z<0)=s,ys.length=l2,xs.length=l1 at *;obtain ⟨w3,hw3,b1,b2,b3,hB⟩:=ik w (.bool s1) (.slice aa l1 y_) 145 (.bool (!s1)) (.slice ab l2 Kk) 145 (.bool false) (.slice none 0 0) 145;have i1:=b1.c0;have i2:=b1.c1;have i3:=b2.c0;have i4:=b2.c1;go_enter func131,ntmps131
 go_wp2_with (with_reducible refine Km (PM.out _ (Na.out _ hB) (O3.out _ hB)) fun wm MR=>?_;have m1:=b1.keep MR;have m2:=b2.keep MR;have m3:=b3.keep MR;have j1:=m1.c0;have j2:=m1.c1;have j3:=m2.c0;have j4:=m2.c1;have k1:=m1.f0;have k2:=m1.f1;have k3:=m2.f0;have k4:=m2.f1;have Bm:=p_ hB MR)
 have n1:=m1;have n2:=m2;have n3:=m3;have Bn:=Bm;clear i1 i2 i3 i4 j1 j2 j3 j4 k1 k2 k3 k4 m1 m2 m3 b1 b2 b3 MR;have e1:=n1.c0;have e2:=n1.c1;have e3:=n2.c0;have e4:=n2.c1
 go_region_held3 (fun W=>W.cell? ⟨w,0,none⟩=some (.bool s1)/\W.cell? ⟨w,1,none⟩=some (.slice aa l1 y_)/\W.cell? ⟨w.heap.size+1,0,none⟩=some (.bool (!s1))/\W.cell? ⟨w.heap.size+1,1,none⟩=some (.slice ab l2 Kk)) (first | exact ⟨hlA,hlA,hlA,hlA⟩ | (go_split_ands;exact ⟨hlA,hlA,hlA,hlA⟩) | go_keep) ((first
  | ((with_reducible refine (PA.out _ (Na.out _ Bn.drew) (O3.out _ Bn.drew)).mono ?_);rintro e w4 ⟨v4,rfl,Ks,hb4⟩;have B4:=Bn.drew.trans (hb4.mono Bn.size);have r4:=n3.drew.keep hb4;have MH:=aE hb4 (ak e1);have NG:=aE hb4 (ak e2);have Oe:=aE hb4 (ak e3);have Pk:=aE hb4 (ak e4);(have z4:wm.heap.size<=w4.heap.size:=hb4.size))
  | ((with_reducible refine (PT.out _ _ _ Ks).mono ?_);rintro e w5 ⟨vc,rfl,hoc,hbc⟩;obtain ⟨ac,KX,rfl,hmc,LF⟩:=aF.view hoc;have B5:=p_ B4 hbc;have r5:=r4.keep hbc;have c0:=r5.c0;have c1:=r5.c1;have g0:=r5.f0;have g1:=r5.f1;have Pl:=aE hbc MH;have Qj:=aE hbc NG;have Sd:=aE hbc Oe;have Vn:=aE hbc Pk;clear LF hmc)
  | fail "ARMS"))
 all_goals
  exact Y9
theorem Zu {p:Prop} (h:p:=by
 go_wp2
 go_roundw
 case rel=>exact ⟨d+1,_,_,ω,ν,ν,hO.out.1,hS2.out,Mt.out.setCell (KT _) _⟩
 case measure=>simp [intOf];omega):p:=h
theorem wau4 {p:Prop} (h:p:=by
 have:=congrArg (fun l:List Int=>l[0]?) h.rest
 simpa [List.getElem?_drop] using this):p:=h
namespace Wh
theorem zC (a b:Int):Lc (decide (a<0) != decide (b<0)) ((a.natAbs:Int)*(b.natAbs:Int))=a*b:=by
 rcases Int.natAbs_eq a with ha | ha <;> rcases Int.natAbs_eq b with hb | hb
 all_goals
  generalize b.natAbs=n,a.natAbs=m at *;subst ha hb
 ·rw [decide_eq_false ω,decide_eq_false ω];rfl
 ·by_cases h:n=0
  ·subst h;simp [Lc]
  rw [decide_eq_false ω,decide_eq_true ω]
  show -((m:Int)*(n:Int))=(m:Int)*-(n:Int)
  rw [Int.mul_neg]
 ·by_cases h:m=0
  ·subst h;simp [Lc]
  rw [decide_eq_true ω,decide_eq_false ω]
  show -((m:Int)*(n:Int))=-(m:Int)*(n:Int)
  rw [Int.neg_mul]
 by_cases h:m=0
 ·subst h;simp [Lc]
 by_cases h':n=0
 ·subst h';simp [Lc]
 rw [decide_eq_true ω,decide_eq_true ω]
 show (m:Int)*(n:Int)=-(m:Int)*-(n:Int)
 rw [Int.neg_mul_neg]
theorem JI (n:Nat):bR (List.replicate n 0):=fun x hx=>by rw [(List.mem_replicate.1 hx).2];exact ⟨Int.le_refl _,δ⟩
theorem FF:∀ n:Nat,val (List.replicate n 0)=0
 | 0=>rfl
 | n+1=>by
  rw [List.replicate_succ]
  show 0+10000*val (List.replicate n 0)=0
  rw [FF n];rfl
theorem MInv.Ir {o0 o:List Int} {x:Int} {b:List Int} {i k:Nat} {c:Int} (h:MInv o0 o x b i k c):o[k]?=o0[k]?:=by
 exact wau4
end Wh
theorem dm (a b:Int) (va vb:Value) (w:World) (ba bb:Nat) (hoa:af w ba va a) (LN:af w bb vb b) (hl1:(Wh.a_ a.natAbs).length<=10000) (hl2:(Wh.a_ b.natAbs).length<=10000) :
  Calls prog 129 #[.agg #[decide (a<0),va],.agg #[decide (b<0),vb]] w fun e w'=>∃ sl,e=.returned (.agg #[decide (a*b<0),sl])/\af w' w sl (a*b)/\Below w w w':=by
 obtain ⟨aa,y_,rfl,hma,hva⟩:=aF.seen hoa;obtain ⟨ab,Kk,rfl,hmb,hvb⟩:=aF.seen LN;have hva:=KO hva;have hvb:=KO hvb;have hla:=KO (bG a.natAbs);have hlb:=KO (bG b.natAbs)
 have PT:=fun W v base ho=>jN (a*b) ((a.natAbs:Int)*(b.natAbs:Int)) ((Wh.a_ a.natAbs).length+(Wh.a_ b.natAbs).length+1) (decide (a<0) != decide (b<0)) v W base ho ω (zC a b)
 have hpr:Hid (∀ (x y:List Int),x=Wh.a_ a.natAbs->y=Wh.a_ b.natAbs->Wh.val x*Wh.val y=(a.natAbs:Int)*(b.natAbs:Int)):=KO fun x y h1 h2=>by rw [h1,h2,bS,bS]
 have hpr:=KO (hpr.out _ _ rfl rfl);generalize decide (b<0)=s2,decide (a<0)=s1 at *;generalize (a.natAbs:Int)*(b.natAbs:Int)=y at *;generalize a*b=z at *;generalize Wh.a_ b.natAbs=ys,Wh.a_ a.natAbs=xs,decide (z<0)=s at *;clear hma hmb hoa LN;obtain ⟨w3,hw3,b1,b2,b3,hB⟩:=ik w (.bool s1) (.slice aa xs.length y_) 145 (.bool s2) (.slice ab ys.length Kk) 145 (.bool false) (.slice none 0 0) 145;obtain ⟨w4,hrun,hown1,hg1⟩:=sR w3 (xs.length+ys.length+1) ω;rw [show ((xs.length+ys.length+1:Nat):Int)=(xs.length:Int)+(ys.length:Int)+1 by omega] at hrun;have hb4:Below w3 w3 w4:=cw hg1 (KT _) (fun k hk=>by cases hk);have hB3:=KO hB;have e2:=b1.c1;have e4:=b2.c1;have k2:=b1.keep hb4;have k4:=b2.keep hb4;have f2:=k2.c1;have f4:=k4.c1;clear hg1;go_enter func129,ntmps129
 go_wp2;have OG:=KO b1;have OH:=KO b2;have Sx:=KO b3;clear e2 e4 k2 k4 f2 f4 b1 b2 b3 hB
 go_loopw [6,7,8,9,10,23] (fun _ _ _ _ _ vi wr=>∃ (i:Nat) (o:List Int),i<=xs.length/\vi=.int .i64 i/\aF wr w3 (.slice (some ⟨w3,0,none⟩) (xs.length+ys.length+1) (xs.length+ys.length+1)) o/\o.length=(xs.length+ys.length+1)/\Wh.bR o/\Wh.val o=Wh.val (xs.take i)*Wh.val ys/\Below w3 w3 wr) (fun _ _ _ _ _ vi _=>xs.length - (intOf vi).toNat)
 case atStart=>exact ⟨0,List.replicate (xs.length+ys.length+1) 0,Nat.zero_le _,rfl,hown1,List.length_replicate,JI _,by rw [FF];simp [Wh.val],hb4⟩
 case round=>
 clear hown1 hb4;obtain ⟨i,o,hi,rfl,hown,hlen,hls,UA,hbr⟩:=hrel;have hlen:=KO hlen;have hls:=KO hls;have UA:=KO UA;have c1:=OG.out.fF hbr OG.out.size;have c2:=OH.out.fF hbr OH.out.size;have c3:=Sx.out.fF hbr Sx.out.size;have hwr:Below w w wr:=hB3.out.trans (hbr.mono hB3.out.size)
 by_cases hlt:i<xs.length
 ·obtain ⟨ga,x,ea,hga,hxa,hca⟩:=hva.out i hlt
  subst ea;have OP:=aE hwr hca;have hlx:=KO (hla.out x (List.mem_of_getElem? hxa.out));have hrow:=KO (D8 hxa.out UA.out);have hplt:=KO (zV (n:=(xs.length+ys.length+1)) (iQ hla.out (i+1)) hlb.out Np);have d2:=c1.c1;have d4:=c2.c1;clear hca c1 c2 c3 hwr;go_wp2
  go_loopw [8,9,10] (fun vc vk _ wq=>∃ (d:Nat) (p:List Int) (c:Int),i+d<=(xs.length+ys.length+1)/\vk=.int .i64 ((i+d:Nat):Int)/\vc=.int .i64 c/\aF wq w3 (.slice (some ⟨w3,0,none⟩) (xs.length+ys.length+1) (xs.length+ys.length+1)) p/\Wh.MInv o p x ys i (i+d) c/\Below w3 w3 wq) (fun _ vk _ _=>(xs.length+ys.length+1) - (intOf vk).toNat)
  case atStart=>exact ⟨0,o,0,ω,rfl,rfl,hown,Wh.MInv.start hls.out x ys i,hbr⟩
  case round=>
  clear hown hbr OP d2 d4;obtain ⟨d,p,c,hd,rfl,rfl,hown,Lb,hbq⟩:=hrel;have c1:=OG.out.fF hbq OG.out.size;have c2:=OH.out.fF hbq OH.out.size;have hwq:Below w w wr:=hB3.out.trans (hbq.mono hB3.out.size)
  by_cases hk:i+d<(xs.length+ys.length+1)
  ·obtain ⟨t,ht⟩:∃ t,o[i+d]?=some t:=⟨_,List.getElem?_eq_getElem (by rw [hlen.out];exact hk)⟩
   have hpl:=Lb.len.trans hlen.out;have hpk:=Lb.Ir.trans ht;have hc0:=aF.cellAt hpl.symm hown hpk;have hf0:wr.frozen? ⟨w3,i+d,none⟩=false:=iz hpl hown (i+d)
   have hst:=KO fun y=>aF.set (j:=i+d) hpl.symm hown y rfl
   have hstep:=fun y hy=>Lb.step (y:=y) hls.out hlx.out hlb.out (Nat.le_add_right _ _) ht hy
   rw [Nat.add_sub_cancel_left] at hstep;have hstep:=KO hstep;have htl:=hls.out t (List.mem_of_getElem? ht);unfold Wh.lim at htl;have hcr:=Lb.c0;have Mt:=KO hbq;have d4:=c2.c1;have UE:w3.heap.size<wr.heap.size:=World.block_lt_of_cell? wr _ hc0;clear Lb hpl hpk ht hown c1 c2
   by_cases hdl:d<ys.length
   ·obtain ⟨gb,yb,eb,hgb,hxb,hcb⟩:=hvb.out d hdl
    subst eb;have hcb:=aE hwq hcb;have hny:=dp hxb.out;have hm:=tp hlx.out (hlb.out yb (List.mem_of_getElem? hxb.out));rw [hny] at hstep;have hny:x*yb=x*yb:=rfl;generalize hpb:x*yb=pb at *;clear hny;have hny:pb=pb:=rfl;have hS:=hstep.out (t+c+pb) rfl;have hy0:=hS.1;have t1:Int.tmod (t+c+pb) 10000=(t+c+pb) % 10000:=Int.tmod_eq_emod_of_nonneg hy0.1;have t2:Int.tdiv (t+c+pb) 10000=(t+c+pb) / 10000:=Int.tdiv_eq_ediv_of_nonneg hy0.1
    have hrr:0<=(t+c+pb) % 10000/\(t+c+pb) % 10000<10000:=ω
    have hqq:0<=(t+c+pb) / 10000/\(t+c+pb) / 10000<=9999:=ω
    have hS2:=KO hS.2;have hO:=KO (hst.out ((t+c+pb) % 10000));clear hS hstep hst hny;generalize (t+c+pb) / 10000=qq,(t+c+pb) % 10000=r at *;exact Zu
   have hny:=dn (l:=ys) (i:=d) ω;rw [hny,Int.mul_zero] at hstep;have hS:=hstep.out (t+c) ω;have hy0:=hS.1;have t1:Int.tmod (t+c) 10000=(t+c) % 10000:=Int.tmod_eq_emod_of_nonneg hy0.1;have t2:Int.tdiv (t+c) 10000=(t+c) / 10000:=Int.tdiv_eq_ediv_of_nonneg hy0.1
   have hrr:0<=(t+c) % 10000/\(t+c) % 10000<10000:=ω
   have hqq:0<=(t+c) / 10000/\(t+c) / 10000<=9999:=ω
   have hS2:=KO hS.2;have hO:=KO (hst.out ((t+c) % 10000));clear hS hstep hst hny;generalize (t+c) / 10000=qq,(t+c) % 10000=r at *;exact Zu
  have e:i+d=(xs.length+ys.length+1):=ω
  rw [e] at Lb;have hf:=KO (Lb.fin hlen.out ω hrow.out hplt.out hls.out);have hpl:=KO (Lb.len.trans hlen.out);have hll:=KO (Lb.bR hls.out);have hown:=KO hown;clear Lb c1 c2;go_wp2
  go_roundw
  case rel=>exact ⟨i+1,p,ω,ν,hown.out,hpl.out,hll.out,hf.out,hbq⟩
  case measure=>simp [intOf];omega
 obtain rfl:i=xs.length:=ω
 rw [List.take_length] at UA;have hov:Hid (pi wr w3 (.slice (some ⟨w3,0,none⟩) (xs.length+ys.length+1) (xs.length+ys.length+1)) y (xs.length+ys.length+1)):=KO ⟨o,hown,hls.out,by rw [UA.out,hpr.out],by rw [hlen.out];exact KT _⟩;have d1:=c1.c0;have d2:=c2.c0;clear hown;rw [show (s1 != s2)=!(s1 == s2) from rfl] at PT;have PT:=KO PT
 go_wp2_with ((with_reducible refine (PT.out _ _ _ hov.out).mono ?_);rintro e w5 ⟨vc,rfl,hoc,hbc⟩;obtain ⟨ac,KX,rfl,hmc,LF⟩:=aF.view hoc;have r5:=c3.keep hbc;have p0:=r5.c0;have p1:=r5.c1;have g0:=r5.f0;have g1:=r5.f1;clear LF hmc)
 have hr:=dM (w:=w) (w.heap.size+1+1) _ (.bool s) ω c3.size hoc (p_ hwr hbc);generalize (Wh.a_ z.natAbs).length=ND at *;exact KU results129 ⟨_,rfl,hr.1,hr.2⟩
theorem YD {p:Prop} (h:p:=by
 obtain ⟨ga,x,ea,hga,hxa,hca⟩:=hva.out j ω;subst ea;have hca:=aE hwr hca;have hr0:=hdi.r0;have hlx:=hla.out x (List.mem_of_getElem? hxa.out);unfold Wh.lim at hlx;have hS:=hdi.step hla.out hxa.out hn2;have hy:=hS.1;have t1:Int.tdiv (r*10000+x) n=(r*10000+x) / n:=Int.tdiv_eq_ediv_of_nonneg hy.1;have t2:Int.tmod (r*10000+x) n=(r*10000+x) % n:=Int.tmod_eq_emod_of_nonneg hy.1;have hpl:=hdi.len;have hqk:q[j]?=some q[j]:=List.getElem?_eq_getElem ω;have hc0:=aF.cellAt hpl.symm hown hqk;have hf0:wr.frozen? ⟨w3,j,none⟩=false:=iz hpl hown j;have hO:=KO (aF.set (j:=j) hpl.symm hown ((r*10000+x) / n) rfl);have hS2:=KO hS.2;have Mt:=KO hbr;have f2:=c1.c1;have UE:w3.heap.size<wr.heap.size:=World.block_lt_of_cell? wr _ hc0
 have hdb:-1000000000000<=(r*10000+x) / n/\(r*10000+x) / n<=10000000000000000:=by
  have h1:=Int.ediv_nonneg hy.1 (show 0<=n by omega);have h2:=Int.ediv_le_self n hy.1;omega
 have hmb:0<=(r*10000+x) % n/\(r*10000+x) % n<n:=⟨Int.emod_nonneg _ ω,Int.emod_lt_of_pos _ ω⟩
 generalize (r*10000+x) % n=yr,(r*10000+x) / n=yq,q[j]=qj at *;clear hS hdi hpl hqk hown c1 c2 hxa;go_wp2
 go_roundw
 case rel=>exact ⟨j,_,_,ω,ν,ν,hO.out.1,hS2.out,Mt.out.setCell (KT _) _⟩
 case measure=>first | (simp [intOf];done) | (simp [intOf];omega)):p:=h
theorem YG {p:Prop} (h:p:=by
 go_wp2_with ((with_reducible refine (PT.out _ _ _ hov.out).mono ?_);rintro e w5 ⟨vc,rfl,hoc,hbc⟩;obtain ⟨ac,KX,rfl,hmc,LF⟩:=aF.view hoc;have r5:=c2.keep hbc;have b5:=c1.keep hbc;have p0:=r5.c0;have p1:=r5.c1;have g0:=r5.f0;have g1:=r5.f1;have z5:=r5.size;have y5:=b5.size;have x0:=b5.c0;clear LF hmc)
 have hr0:=dM (w:=w) (w2:=w5) (w.heap.size+1) _ (.bool s) ω c2.size hoc (p_ hwr hbc);have hr1:=aF.alloc hr0.1 (.cells #[s,.slice ac (Wh.a_ z.natAbs).length KX] 145);have hr2:=hr0.2.alloc hr0.2.size (.cells #[s,.slice ac (Wh.a_ z.natAbs).length KX] 145);generalize (Wh.a_ z.natAbs).length=ND at *;exact KU results182 ⟨_,rfl,hr1,hr2⟩):p:=h
theorem Z9 {p:Prop} (h:p:=by exact ⟨xs.length,List.replicate xs.length 0,0,KT _,rfl,rfl,hown1,pf.start ω List.length_replicate,hb4⟩):p:=h
namespace Wh
theorem DB {a n:Int} (ha:¬ a<0):Lc false ((a.natAbs:Int) / n)=a / n/\(a.natAbs:Int) % n=a % n:=by
 rw [show (a.natAbs:Int)=a by omega];exact ⟨rfl,rfl⟩
theorem C9 {a n:Int} (hn:0<n) (ha:a<0) (hr:(a.natAbs:Int) % n=0):Lc true ((a.natAbs:Int) / n)=a / n/\(a.natAbs:Int) % n=a % n:=by
 have h1:=Int.mul_ediv_add_emod (a.natAbs:Int) n;rw [hr] at h1 ⊢
 have h2:a=n*-((a.natAbs:Int) / n):=by
  rw [Int.mul_neg];omega
 constructor
 ·show -((a.natAbs:Int) / n)=a / n
  conv=>rhs;rw [h2]
  rw [Int.mul_ediv_cancel_left _ ω]
 conv=>rhs;rw [h2]
 rw [Int.mul_emod_right]
theorem DA {a n:Int} (hn:0<n) (ha:a<0) (hr:¬ (a.natAbs:Int) % n=0):Lc true ((a.natAbs:Int) / n)+-1=a / n/\n - (a.natAbs:Int) % n=a % n:=by
 have h1:=Int.mul_ediv_add_emod (a.natAbs:Int) n;have h3:=Int.emod_nonneg (a.natAbs:Int) (show n≠0 by omega);have h4:=Int.emod_lt_of_pos (a.natAbs:Int) hn;generalize (a.natAbs:Int) / n=q at *;generalize (a.natAbs:Int) % n=r at *
 have h2:a=(n - r)+n*(-q+-1):=by
  rw [Int.mul_add,Int.mul_neg];omega
 constructor
 ·show -q+-1=a / n
  rw [h2,Int.add_mul_ediv_left _ _ ω,Int.ediv_eq_zero_of_lt ω ω,Int.zero_add]
 rw [h2,Int.add_mul_emod_self_left,Int.emod_eq_of_lt ω ω]
theorem yg {a n:Int} (s:Bool) (hn:0<n):(a_ (Lc s ((a.natAbs:Int) / n)).natAbs).length<=(a_ a.natAbs).length:=by
 refine gF ?_;have h1:0<=(a.natAbs:Int) / n:=Int.ediv_nonneg ω ω;have h2:(a.natAbs:Int) / n<=a.natAbs:=Int.ediv_le_self _ ω;rw [uQ h1];omega
theorem oj:(a_ (-1:Int).natAbs).length<=1:=eV (k:=1) δ
end Wh
theorem lX (a n:Int) (va:Value) (w:World) (ba:Nat) (hoa:af w ba va a) (hl:(Wh.a_ a.natAbs).length<=9000) (hn1:1<=n) (hn2:n<=1000000000000) :
  Calls prog 182 #[.agg #[decide (a<0),va],n] w fun e w'=>∃ sl,e=.returned (.tuple #[.agg #[decide (a / n<0),sl],(a % n:Int)])/\af w' w sl (a / n)/\Below w w w':=by
 obtain ⟨aa,y_,rfl,hma,hva⟩:=aF.seen hoa;have hva:=KO hva;have hla:=KO (bG a.natAbs);have hvl:=KO (bS a.natAbs)
 have hq0:=fun s=>yg (a:=a) (n:=n) s ω
 have PT:=fun s W v base ho=>jN (Wh.Lc s ((a.natAbs:Int) / n)) ((a.natAbs:Int) / n) (Wh.a_ a.natAbs).length s v W base ho ω rfl
 have d0:=fun h=>DB (a:=a) (n:=n) h
 have d1:=fun h h'=>C9 (a:=a) (n:=n) ω h h'
 have d2:=fun h h'=>DA (a:=a) (n:=n) ω h h'
 have d0:=KO d0;have d1:=KO d1;have d2:=KO d2;clear hma hoa
 obtain ⟨s1,hs1⟩:∃ s,decide (a<0)=s:=⟨_,rfl⟩
 rw [hs1];have hs1:=KO hs1;generalize a % n=zr,a / n=z at *;generalize hab:(a.natAbs:Int)=A at *;have Lj:Hid (Wh.val (Wh.a_ a.natAbs)=A):=hvl;clear hvl hab;generalize Wh.a_ a.natAbs=xs at *
 obtain ⟨s,hsd⟩:∃ s,Hid (decide (z<0)=s):=⟨_,KO rfl⟩
 rw [hsd.out];have b1:=(bJ.new w (.bool s1) (.slice aa xs.length y_) 145).alloc (.cells #[false,.slice none 0 0] 145);have b2:=bJ.new2 w (.cells #[s1,.slice aa xs.length y_] 145) (.bool false) (.slice none 0 0) 145;have hB:=((KS w w).alloc (KT _) (.cells #[s1,.slice aa xs.length y_] 145)).alloc (by rw [KQ];omega) (.cells #[false,.slice none 0 0] 145);generalize hw3:(w.alloc (.cells #[s1,.slice aa xs.length y_] 145)).alloc (.cells #[false,.slice none 0 0] 145)=w3 at *;obtain ⟨w4,hrun,hown1,hg1⟩:=sR w3 xs.length ω;have hb4:Below w3 w3 w4:=cw hg1 (KT _) (fun k hk=>by cases hk);have hB3:=KO hB;have e2:=b1.c1;have OG:=KO b1;have OH:=KO b2;clear hg1 b2 hB;go_enter func182,ntmps182
 go_wp2;clear e2 b1
 go_loopw [7,8] (fun vr vi wr=>∃ (k:Nat) (q:List Int) (r:Int),k<=xs.length/\vi=.int .i64 ((k:Int) - 1)/\vr=.int .i64 r/\aF wr w3 (.slice (some ⟨w3,0,none⟩) xs.length xs.length) q/\pf xs q n k r/\Below w3 w3 wr) (fun _ vi _=>(intOf vi+1).toNat)
 case atStart=>exact Z9
 case round=>
 clear hown1 hb4;obtain ⟨k,q,r,hk,rfl,rfl,hown,hdi,hbr⟩:=hrel;have c1:=OG.out.fF hbr OG.out.size;have c2:=OH.out.fF hbr OH.out.size;have hwr:Below w w wr:=hB3.out.trans (hbr.mono hB3.out.size)
 cases k with
 | zero=>
  have hf:=hdi.fin;rw [Lj.out] at hf;obtain ⟨hq1,rfl,hq3⟩:=hf;have hov:Hid (pi wr w3 (.slice (some ⟨w3,0,none⟩) xs.length xs.length) (A / n) xs.length):=KO ⟨q,hown,hq3,hq1,by rw [hdi.len];exact KT _⟩;have hd0:=c1.c0;clear hdi hown hq1 hq3;cases s1
  ·have hna:¬ a<0:=by have:=hs1.out;simpa using this
   obtain ⟨hz1,hz2⟩:=d0.out ω;have PT:=PT false;rw [hz1] at PT;rw [hsd.out] at PT;have PT:=KO PT;rw [hz2]
   exact YG
  have hna:a<0:=by have:=hs1.out;simpa using this
  by_cases hrz:A % n=0
  ·skip
   obtain ⟨hz1,hz2⟩:=d1.out hna hrz;have PT:=PT true;rw [hz1] at PT;rw [hsd.out] at PT;have PT:=KO PT;rw [hz2] at hrz ⊢
   exact YG
  obtain ⟨hz1,hz2⟩:=d2.out hna hrz;have PT:=PT true;have hq1:=hq0 true
  have Va:0<A % n:=by have:=Int.emod_nonneg A (show n≠0 by omega);omega
  have hrn:A % n<n:=Int.emod_lt_of_pos _ ω;generalize A % n=rr,Wh.Lc true (A / n)=y0 at *
  have PW:=fun W=>bw (-1) W ω ω
  have PA:=fun va vb W ba bb (h1:aF W ba va (Wh.a_ y0.natAbs)) (h2:aF W bb vb (Wh.a_ (-1:Int).natAbs))=>ji y0 (-1) va vb W ba bb h1 h2 ω (by have:=oj;omega)
  rw [decide_eq_true (show (-1:Int)<0 by decide)] at PW PA;rw [hz1,hsd.out] at PA;have hrp2:=Va
  obtain ⟨s0,hs0⟩:∃ s0,decide (y0<0)=s0:=⟨_,rfl⟩
  rw [hs0] at PT PA;have PT:=KO PT;have PW:=KO PW;have PA:=KO PA;replace hz2:=KO hz2;clear hz1 hs0 hq0 hq1 d0 d1 d2 hrz
  go_wp2_with ((with_reducible refine (PT.out _ _ _ hov.out).mono ?_);rintro e w5 ⟨vc,rfl,hoc,hbc⟩;obtain ⟨ac,KX,rfl,hmc,LF⟩:=aF.view hoc;have r5:=c2.keep hbc;have b5:=c1.keep hbc;have p0:=r5.c0;have p1:=r5.c1;have g0:=r5.f0;have g1:=r5.f1;have z5:=r5.size;have y5:=b5.size;have x0:=b5.c0;clear LF hmc)
  have bt:=bJ.new w5 (.bool s0) (.slice ac (Wh.a_ y0.natAbs).length KX) 145;have r6:=r5.alloc (.cells #[s0,.slice ac (Wh.a_ y0.natAbs).length KX] 145);have Tq:=aF.alloc hoc (.cells #[s0,.slice ac (Wh.a_ y0.natAbs).length KX] 145);have B6:=(p_ hwr hbc).alloc (by have:=(p_ hwr hbc).size;omega) (.cells #[s0,.slice ac (Wh.a_ y0.natAbs).length KX] 145);have u0:=bt.c0;have u1:=bt.c1;have zz:w5.heap.size<(w5.alloc (.cells #[s0,.slice ac (Wh.a_ y0.natAbs).length KX] 145)).heap.size:=bt.size;generalize (Wh.a_ y0.natAbs).length=l0,w5.alloc (.cells #[s0,.slice ac (Wh.a_ y0.natAbs).length KX] 145)=w6 at *;clear p0 p1 g0 g1 x0
  go_region_held3 (fun W=>W.cell? ⟨w5,0,none⟩=some (.bool s0)/\W.cell? ⟨w5,1,none⟩=some (.slice ac l0 KX)) (first | exact ⟨hlA,hlA⟩ | (go_split_ands;exact ⟨hlA,hlA⟩) | go_keep) ((first
   | ((with_reducible refine (PW.out _).mono ?_);rintro e w7 ⟨v7,rfl,Nx,KY⟩;(have Tp:aF _ _ _ (Wh.a_ (-1:Int).natAbs):=Nx);have Qx:=aE KY (ak u0);have MH:=aE KY (ak u1);have r7:=r6.drew.keep KY;have B7:=B6.drew.trans (KY.mono B6.size);have Tr:=aF.below (aF.below Tq (KS _ _).drew) KY;(have z7:w6.heap.size<=w7.heap.size:=KY.size))
   | ((with_reducible refine (PA.out _ _ _ _ _ Tr Tp).mono ?_);rintro e w8 ⟨v8,rfl,Me,Ko⟩;obtain ⟨a8,RE,rfl,W1,hv8⟩:=aF.view Me;have y0_:=aE Ko Qx;have Pl:=aE Ko MH;have r8:=r7.keep Ko;have p0:=r8.c0;have p1:=r8.c1;have g0:=r8.f0;have g1:=r8.f1;have B8:=p_ B7 Ko;clear hv8 W1)
   | fail "ARMS"))
  all_goals
   have hr:=dM (w:=w) (w.heap.size+1) _ (.bool s) ω r7.size Me B8;generalize (Wh.a_ z.natAbs).length=ND at *;go_wp2
   have hwz:IntKind.i64.wrap (n - rr)=n - rr:=by
    rw [IntKind.wrap_i64];omega
   exact KU (v:=.tuple #[.agg #[s,.slice a8 ND RE],(n - rr:Int)]) results182 ⟨_,by rw [hz2.out],hr.1,hr.2⟩
 | succ j=>
 exact YD
theorem Yy {p:Prop} (h:p:=by
 go_wp2_with (first
  | (with_reducible refine Kw (QA.out _ (hoa.out.below hbr)) ?_)
  | (with_reducible refine Kw (QB.out _ (LN.out.below hbr)) ?_))
 go_ret;exact ⟨by rw [hz.out] <;> rfl,hbr⟩):p:=h
theorem jj (l:List Int) (v:Value) (i:Nat) (w:World) (base:Nat) (hown:aF w base v l) :
  cP 198 #[v,i] w (.int .i64 (Wh.nth l i)):=by
 obtain ⟨a,cap,rfl,hm,hv⟩:=hown.seen
 by_cases h:i<l.length
 ·obtain ⟨g,x,rfl,hg,hx,hcell⟩:=hv i h
  have hn:=KO (dp hx.out);clear hv hm hown hx;go_enter func198,ntmps198
  go_wp2;go_ret;exact ⟨by rw [hn.out] <;> rfl,rfl⟩
 have hn:=KO (dn (l:=l) (i:=i) ω);clear hv hm hown;go_enter func198,ntmps198
 go_wp2;go_ret;exact ⟨by rw [hn.out] <;> rfl,rfl⟩
theorem AU (xs ys:List Int) (va vb:Value) (w:World) (ba bb:Nat) (hoa:aF w ba va xs) (LN:aF w bb vb ys) (hla:Wh.bR xs) (hlb:Wh.bR ys) (hl1:xs.length<=100000) (hl2:ys.length<=100000) :
  cB 207 #[va,vb] w (.int .i64 (Wh.LY (Wh.val xs) (Wh.val ys))):=by
 have PA:=fun (i:Nat) W h=>jj xs va i W ba h
 have PB:=fun (i:Nat) W h=>jj ys vb i W bb h
 have PM:=fun W=>ff (xs.length:Int) (ys.length:Int) W
 obtain ⟨L,hL⟩:∃ L:Nat,max (xs.length:Int) (ys.length:Int)=L:=⟨max xs.length ys.length,ω⟩
 have hx1:xs.length<=L:=ω
 have hy1:ys.length<=L:=ω
 have hLb:L<=100000:=ω
 rw [hL] at PM;have PM:=KO PM;have PA:=KO PA;have PB:=KO PB;obtain ⟨aa,y_,rfl,hma,hva⟩:=hoa.view;obtain ⟨ab,Kk,rfl,hmb,hvb⟩:=LN.view;have hoa:=KO hoa;have LN:=KO LN;have hla:=KO hla;have hlb:=KO hlb;clear hma hmb hva hvb hL;go_enter func207,ntmps207
 go_wp2_with (with_reducible refine Kw (PM.out _) ?_)
 go_loopw [5,6,7,24,28] (fun vi _ _ _ _ wr=>∃ k:Nat,k<=L/\vi=.int .i64 ((k:Int) - 1)/\(∀ q:Nat,k<=q->q<L->Wh.nth xs q=Wh.nth ys q)/\Below w w wr) (fun vi _ _ _ _ _=>(intOf vi+1).toNat)
 case atStart=>exact ⟨L,KT _,rfl,fun q h1 h2=>ω,KS _ _⟩
 case round=>
 obtain ⟨k,hk,rfl,heq,hbr⟩:=hrel;have heq:=KO heq
 cases k with
 | zero=>
  have hz:Hid (Wh.LY (Wh.val xs) (Wh.val ys)=0):=KO (Wh.cmp_eq hx1 hy1 fun q h=>heq.out q (Nat.zero_le _) h);go_wp2;go_ret;exact ⟨by rw [hz.out] <;> rfl,hbr⟩
 | succ j=>
 have QA:=PA.out j;have QB:=PB.out j;have hnx:=KO (rfl:Wh.nth xs j=Wh.nth xs j)
 obtain ⟨x,hx⟩:∃ x,Hid (Wh.nth xs j=x):=⟨_,KO rfl⟩
 obtain ⟨y,hy⟩:∃ y,Hid (Wh.nth ys j=y):=⟨_,KO rfl⟩
 rw [hx.out] at QA;rw [hy.out] at QB;have QA:=KO QA;have QB:=KO QB;clear hnx
 by_cases hxy:x=y
 ·subst hxy
  have heq2:Hid (∀ q:Nat,j<=q->q<L->Wh.nth xs q=Wh.nth ys q):=KO fun q h1 h2=>by
   by_cases hq:q=j
   ·subst hq;rw [hx.out,hy.out]
   exact heq.out q ω h2
  go_wp2_with (first
   | (with_reducible refine Kw (QA.out _ (hoa.out.below hbr)) ?_)
   | (with_reducible refine Kw (QB.out _ (LN.out.below hbr)) ?_))
  go_roundw
  case rel=>exact ⟨j,ω,ν,heq2.out,hbr⟩
  case measure=>exact Uy
 by_cases hlt:x<y
 ·have hz:Hid (Wh.LY (Wh.val xs) (Wh.val ys)=-1):=KO (Ch hla.out hlb.out hx1 hy1 (i:=j) ω (fun q h1 h2=>heq.out q ω h2) (by rw [hx.out,hy.out];exact hlt))
  exact Yy
 have hz:Hid (Wh.LY (Wh.val xs) (Wh.val ys)=1):=KO (Cg hla.out hlb.out hx1 hy1 (i:=j) ω (fun q h1 h2=>heq.out q ω h2) (by rw [hx.out,hy.out];omega))
 have hlt2:y<x:=ω
 exact Yy
theorem X9 {p:Prop} (h:p:=by
 have hiL:i<L:=ω
 clear hcar hfin hnx hny
 by_cases hx0:x+sb+c<0
 ·skip
  have hS:=hstep.out (x+sb+c+10000) (-1) ⟨ω,ω⟩ ω ξ ξ;have hS:=KO hS;clear hstep
  go_wp2_with (first
   | (first
    | (with_reducible refine Kw (QA.out _ (hoa.out.below hbr)) ?_)
    | (with_reducible refine Kw (QB.out _ (LN.out.below hbr)) ?_))
   | (at_builtin;refine dq (W:=wr) w (x+sb+c+10000) _ _ rfl (.tmp 48) (.tmp 50) rfl rfl rfl hown.out (KS _ _) ω ω ?_;rintro v6 w6 hown6 hb6))
  go_roundw
  case rel=>exact ⟨i+1,_,_,ω,fun h=>by first | rfl | omega,ν,ν,hown6,hS.out,hbr.trans hb6⟩
  case measure=>simp [intOf];omega
 by_cases hx1:10000<=x+sb+c
 ·skip
  have hS:=hstep.out (x+sb+c - 10000) (1) ⟨ω,ω⟩ ω ξ ξ;have hS:=KO hS;clear hstep
  go_wp2_with (first
   | (first
    | (with_reducible refine Kw (QA.out _ (hoa.out.below hbr)) ?_)
    | (with_reducible refine Kw (QB.out _ (LN.out.below hbr)) ?_))
   | (at_builtin;refine dq (W:=wr) w (x+sb+c - 10000) _ _ rfl (.tmp 48) (.tmp 50) rfl rfl rfl hown.out (KS _ _) ω ω ?_;rintro v6 w6 hown6 hb6))
  go_roundw
  case rel=>exact ⟨i+1,_,_,ω,fun h=>by first | rfl | omega,ν,ν,hown6,hS.out,hbr.trans hb6⟩
  case measure=>simp [intOf];omega
 skip
 have hS:=hstep.out (x+sb+c) (0) ⟨ω,ω⟩ ω ξ ξ;have hS:=KO hS;clear hstep
 go_wp2_with (first
  | (first
   | (with_reducible refine Kw (QA.out _ (hoa.out.below hbr)) ?_)
   | (with_reducible refine Kw (QB.out _ (LN.out.below hbr)) ?_))
  | (at_builtin;refine dq (W:=wr) w (x+sb+c) _ _ rfl (.tmp 48) (.tmp 50) rfl rfl rfl hown.out (KS _ _) ω ω ?_;rintro v6 w6 hown6 hb6))
 go_roundw
 case rel=>exact ⟨i+1,_,_,ω,fun h=>by first | rfl | omega,ν,ν,hown6,hS.out,hbr.trans hb6⟩
 case measure=>simp [intOf];omega):p:=h
theorem oc (xs ys:List Int) (s:Int) (va vb:Value) (w:World) (ba bb:Nat) (hs:s=1∨s=-1) (hoa:aF w ba va xs) (LN:aF w bb vb ys) (hla:Wh.bR xs) (hlb:Wh.bR ys) (hnn:0<=Wh.val xs+s*Wh.val ys) (hl1:xs.length<=100000) (hl2:ys.length<=100000) :
  Calls prog 206 #[va,vb,s] w fun e w'=>∃ v,e=.returned v/\pi w' w v (Wh.val xs+s*Wh.val ys) (xs.length+ys.length+1)/\Below w w w':=by
 have PA:=fun (i:Nat) W h=>jj xs va i W ba h
 have PB:=fun (i:Nat) W h=>jj ys vb i W bb h
 have PA:=KO PA;have PB:=KO PB;obtain ⟨aa,y_,rfl,hma,hva⟩:=hoa.view;obtain ⟨ab,Kk,rfl,hmb,hvb⟩:=LN.view;have hoa:=KO hoa;have LN:=KO LN;have hla:=KO hla;have hlb:=KO hlb;have hnn:=KO hnn;clear hma hmb hva hvb
 obtain ⟨L,hL1,hL2,hL3⟩:∃ L:Nat,xs.length<=L/\ys.length<=L/\L<=xs.length+ys.length/\(xs.length=L∨ys.length=L):=⟨max xs.length ys.length,ω,ω,ω⟩
 go_enter func206,ntmps206
 go_wp2
 go_loopw [7,8,9,10,38,43] (fun vo vc vi _ _ _ wr=>∃ (i:Nat) (o:List Int) (c:Int),i<=L+1/\(L<i->c=0)/\vi=.int .i64 i/\vc=.int .i64 c/\aF wr w vo o/\ic xs ys s i o c/\Below w w wr) (fun _ _ vi _ _ _ _=>L+2 - (intOf vi).toNat)
 case atStart=>exact ⟨0,[],0,ω,fun h=>ω,rfl,rfl,aF.nil _ _,ic.start xs ys s,KS _ _⟩
 case round=>
 obtain ⟨i,o,c,hi,hic,rfl,rfl,hown,hai,hbr⟩:=hrel;have hrg:=hai.rng hs hla.out hlb.out;have hol:=hai.len;have Ny:=hbr.size;have QA:=PA.out i;have QB:=PB.out i;have SQ:=pP hlb.out i;unfold Wh.lim at SQ
 have hstep:=KO fun x c' h1 h2 h3 h4=>hai.step (x:=x) (c':=c') h1 h2 h3 h4
 have hsx:-9999<=s*Wh.nth ys i/\s*Wh.nth ys i<=9999:=by rcases hs with rfl | rfl <;> omega
 have hcar:=KO fun h1 h2 h3=>hai.carry hs h1 h2 hnn.out h3
 have hfin:Hid (xs.length<=i->ys.length<=i->c=0->Wh.val xs+s*Wh.val ys=Wh.val o):=KO fun h1 h2 h3=>(hai.all h1 h2).symm.trans (by rw [h3,Int.mul_zero,Int.add_zero])
 have hls:=KO hai.ls;have hown:=KO hown;clear hai;have hnx:=dn (l:=xs) (i:=i);have hny:=dn (l:=ys) (i:=i);have hnx:=KO hnx;have hny:=KO hny
 obtain ⟨x,hx⟩:∃ x,Wh.nth xs i=x:=⟨_,rfl⟩
 obtain ⟨y,hy⟩:∃ y,Wh.nth ys i=y:=⟨_,rfl⟩
 rw [hx] at QA hrg hstep hnx;rw [hy] at QB hrg hstep hsx SQ hny;clear hx hy;have QA:=KO QA;have QB:=KO QB;generalize hsb:s*y=sb at *
 by_cases ha:i<xs.length
 ·exact X9
 by_cases hb:i<ys.length
 ·exact X9
 by_cases hc0:c=0
 ·subst hc0
  have hv:=hfin.out ω ω rfl
  have hres:Hid (∀ vo W b,aF W b vo o->pi W b vo (Wh.val xs+s*Wh.val ys) (xs.length+ys.length+1)):=KO fun vo W b h=>⟨o,h,hls.out,hv.symm,ω⟩
  clear hstep hcar hfin hnx hny hv;go_wp2;go_ret;exact ⟨_,rfl,hres.out _ _ _ hown.out,hbr⟩
 have hc1:=hcar.out ω ω hc0
 have hiL:i<=L:=by
  by_cases h:L<i
  ·exact absurd (hic h) hc0
  omega
 have hx0_:=hnx.out ω;have hy0_:=hny.out ω
 have RY:sb=0:=by rw [←hsb,hy0_,Int.mul_zero]
 clear hcar hfin hnx hny
 by_cases hx0:x+sb+c<0
 ·skip
  exfalso;omega
 by_cases hx1:10000<=x+sb+c
 ·skip
  exfalso;omega
 skip
 have hS:=hstep.out (1) (0) ⟨ω,ω⟩ ω ξ ξ;have hS:=KO hS;clear hstep
 go_wp2_with (first
  | (first
   | (with_reducible refine Kw (QA.out _ (hoa.out.below hbr)) ?_)
   | (with_reducible refine Kw (QB.out _ (LN.out.below hbr)) ?_))
  | (at_builtin;refine dq (W:=wr) w (1) _ _ rfl (.tmp 48) (.tmp 50) rfl rfl rfl hown.out (KS _ _) ω ω ?_;rintro v6 w6 hown6 hb6))
 go_roundw
 case rel=>exact ⟨i+1,_,_,ω,fun h=>by first | rfl | omega,ν,ν,hown6,hS.out,hbr.trans hb6⟩
 case measure=>simp [intOf];omega
theorem Uk {p:Prop} (h:p:=by have hr:=dM (w:=w) (w.heap.size+1+1) _ (.bool s) ω (Nat.lt_of_lt_of_le n3.size z4) hoc B5;generalize (Wh.a_ z.natAbs).length=ND at *;go_wp2;exact KU results189 ⟨_,rfl,hr.1,hr.2⟩):p:=h
theorem kV (z y:Int) (n:Nat) (neg:Bool) (v:Value) (w:World) (base:Nat) (ho:pi w base v y n) (hn:n<=1000000) (hz:Wh.Lc neg y=z) :
  Calls prog 197 #[neg,v] w fun e w'=>∃ sl,e=.returned (.agg #[decide (z<0),sl])/\af w' w sl z/\Below w w w':=by
 obtain ⟨o,h1,h2,h3,h4⟩:=ho;exact kW z neg o v w base h1 h2 ω (by rw [h3];exact hz)
theorem pD (a b:Int) (va vb:Value) (w:World) (ba bb:Nat) (hoa:af w ba va a) (LN:af w bb vb b) (hl1:(Wh.a_ a.natAbs).length<=10000) (hl2:(Wh.a_ b.natAbs).length<=10000) :
  Calls prog 189 #[.agg #[decide (a<0),va],.agg #[decide (b<0),vb]] w fun e w'=>∃ sl,e=.returned (.agg #[decide (a+b<0),sl])/\af w' w sl (a+b)/\Below w w w':=by
 obtain ⟨aa,y_,rfl,-,-⟩:=aF.view hoa;obtain ⟨ab,Kk,rfl,-,-⟩:=aF.view LN
 have PA:=fun s hs h0 W h1 h2=>oc (Wh.a_ a.natAbs) (Wh.a_ b.natAbs) s (.slice aa (Wh.a_ a.natAbs).length y_) (.slice ab (Wh.a_ b.natAbs).length Kk) W ba bb hs h1 h2 (bG _) (bG _) h0 ω ω
 rw [bS,bS] at PA
 have PA':=fun s hs h0 W h1 h2=>oc (Wh.a_ b.natAbs) (Wh.a_ a.natAbs) s (.slice ab (Wh.a_ b.natAbs).length Kk) (.slice aa (Wh.a_ a.natAbs).length y_) W bb ba hs h1 h2 (bG _) (bG _) h0 ω ω
 rw [bS,bS] at PA'
 have PO:=fun W h1 h2=>AU (Wh.a_ a.natAbs) (Wh.a_ b.natAbs) (.slice aa (Wh.a_ a.natAbs).length y_) (.slice ab (Wh.a_ b.natAbs).length Kk) W ba bb h1 h2 (bG _) (bG _) ω ω
 rw [bS,bS] at PO
 have PT:=fun s y (h:Wh.Lc s y=a+b) W v base ho=>kV (a+b) y ((Wh.a_ a.natAbs).length+(Wh.a_ b.natAbs).length+1) s v W base ho ω h
 have VO:=fun s y (h:Wh.Lc s y=a+b) W v base ho=>kV (a+b) y ((Wh.a_ b.natAbs).length+(Wh.a_ a.natAbs).length+1) s v W base ho ω h
 have Na:Hid (∀ W,Below w w W->aF W ba (.slice aa (Wh.a_ a.natAbs).length y_) (Wh.a_ a.natAbs)):=KO fun W h=>aF.below hoa h
 have O3:Hid (∀ W,Below w w W->aF W bb (.slice ab (Wh.a_ b.natAbs).length Kk) (Wh.a_ b.natAbs)):=KO fun W h=>aF.below LN h
 obtain ⟨s1,hs1⟩:∃ s,decide (a<0)=s:=⟨_,rfl⟩
 obtain ⟨s2,hs2⟩:∃ s,decide (b<0)=s:=⟨_,rfl⟩
 clear hoa LN
 by_cases hss:s1=s2
 ·subst hss
  have PT:=KO (PT s1 _ (Wh.add_same hs1 hs2));have PA:=KO (PA 1 (Or.inl rfl) ω);rw [hs1,hs2];clear hs1 hs2 PA' VO PO;generalize (a.natAbs:Int)+1*(b.natAbs:Int)=y at *;generalize Wh.a_ b.natAbs=ys,Wh.a_ a.natAbs=xs,a+b=z at *;generalize decide (z<0)=s,ys.length=l2,xs.length=l1 at *;obtain ⟨w3,hw3,b1,b2,b3,hB⟩:=ik w (.bool s1) (.slice aa l1 y_) 145 (.bool s1) (.slice ab l2 Kk) 145 (.bool false) (.slice none 0 0) 145;have n1:=b1;have n2:=b2;have n3:=b3;have Bn:=hB;clear b1 b2 b3;have e1:=n1.c0;have e2:=n1.c1;have e3:=n2.c0;have e4:=n2.c1;go_enter func189,ntmps189
  go_wp2
  go_region_held3 (fun W=>W.cell? ⟨w,0,none⟩=some (.bool s1)/\W.cell? ⟨w,1,none⟩=some (.slice aa l1 y_)/\W.cell? ⟨w.heap.size+1,0,none⟩=some (.bool s1)/\W.cell? ⟨w.heap.size+1,1,none⟩=some (.slice ab l2 Kk)) (first | exact ⟨hlA,hlA,hlA,hlA⟩ | (go_split_ands;exact ⟨hlA,hlA,hlA,hlA⟩) | go_keep) ((first
   | ((with_reducible refine (PA.out _ (Na.out _ Bn.drew) (O3.out _ Bn.drew)).mono ?_);rintro e w4 ⟨v4,rfl,Ks,hb4⟩;have B4:=Bn.drew.trans (hb4.mono Bn.size);have r4:=n3.drew.keep hb4;have MH:=aE hb4 (ak e1);have NG:=aE hb4 (ak e2);have Oe:=aE hb4 (ak e3);have Pk:=aE hb4 (ak e4);(have z4:w3.heap.size<=w4.heap.size:=hb4.size))
   | ((with_reducible refine (PT.out _ _ _ Ks).mono ?_);rintro e w5 ⟨vc,rfl,hoc,hbc⟩;obtain ⟨ac,KX,rfl,hmc,LF⟩:=aF.view hoc;have B5:=p_ B4 hbc;have r5:=r4.keep hbc;have c0:=r5.c0;have c1:=r5.c1;have g0:=r5.f0;have g1:=r5.f1;have Pl:=aE hbc MH;have Qj:=aE hbc NG;have Sd:=aE hbc Oe;have Vn:=aE hbc Pk;clear LF hmc)
   | fail "ARMS"))
  all_goals
   exact Uk
 obtain rfl:s2=!s1:=by cases s1 <;> cases s2 <;> simp_all
 have hsn:(s1 == !s1)=false:=by cases s1 <;> rfl
 clear hss;have hd:=mE (a:=a) (b:=b) hs1 hs2;have hd':=mE (a:=b) (b:=a) hs2 (by rw [Bool.not_not];exact hs1);rw [Int.add_comm b a] at hd';rw [hs1,hs2];clear hs1 hs2
 by_cases hlt:a.natAbs<b.natAbs
 ·skip
  have PT:=KO (VO (!s1) _ hd');have PA:=KO (PA' (-1) (Or.inr rfl) ω);rw [oM ω] at PO;have PO:=KO PO;clear hlt hd hd' VO PA';generalize (b.natAbs:Int)+-1*(a.natAbs:Int)=y at *;generalize Wh.a_ b.natAbs=ys,Wh.a_ a.natAbs=xs,a+b=z at *;generalize decide (z<0)=s,ys.length=l2,xs.length=l1 at *;obtain ⟨w3,hw3,b1,b2,b3,hB⟩:=ik w (.bool s1) (.slice aa l1 y_) 145 (.bool (!s1)) (.slice ab l2 Kk) 145 (.bool false) (.slice none 0 0) 145;have i1:=b1.c0;have i2:=b1.c1;have i3:=b2.c0;have i4:=b2.c1;go_enter func189,ntmps189
  go_wp2_with (with_reducible refine Km (PO.out _ (Na.out _ hB) (O3.out _ hB)) fun wm MR=>?_;have n1:=b1.keep MR;have n2:=b2.keep MR;have n3:=b3.keep MR;have Bn:=p_ hB MR)
  clear i1 i2 i3 i4 b1 b2 b3 MR;have e1:=n1.c0;have e2:=n1.c1;have e3:=n2.c0;have e4:=n2.c1
  go_region_held3 (fun W=>W.cell? ⟨w,0,none⟩=some (.bool s1)/\W.cell? ⟨w,1,none⟩=some (.slice aa l1 y_)/\W.cell? ⟨w.heap.size+1,0,none⟩=some (.bool (!s1))/\W.cell? ⟨w.heap.size+1,1,none⟩=some (.slice ab l2 Kk)) (first | exact ⟨hlA,hlA,hlA,hlA⟩ | (go_split_ands;exact ⟨hlA,hlA,hlA,hlA⟩) | go_keep) ((first
   | ((with_reducible refine (PA.out _ (O3.out _ Bn.drew) (Na.out _ Bn.drew)).mono ?_);rintro e w4 ⟨v4,rfl,Ks,hb4⟩;have B4:=Bn.drew.trans (hb4.mono Bn.size);have r4:=n3.drew.keep hb4;have MH:=aE hb4 (ak e1);have NG:=aE hb4 (ak e2);have Oe:=aE hb4 (ak e3);have Pk:=aE hb4 (ak e4);(have z4:wm.heap.size<=w4.heap.size:=hb4.size))
   | ((with_reducible refine (PT.out _ _ _ Ks).mono ?_);rintro e w5 ⟨vc,rfl,hoc,hbc⟩;obtain ⟨ac,KX,rfl,hmc,LF⟩:=aF.view hoc;have B5:=p_ B4 hbc;have r5:=r4.keep hbc;have c0:=r5.c0;have c1:=r5.c1;have g0:=r5.f0;have g1:=r5.f1;have Pl:=aE hbc MH;have Qj:=aE hbc NG;have Sd:=aE hbc Oe;have Vn:=aE hbc Pk;clear LF hmc)
   | fail "ARMS"))
  all_goals
   exact Uk
 skip
 have PT:=KO (PT s1 _ hd);have PA:=KO (PA (-1) (Or.inr rfl) ω)
 have hr0:0<=Wh.LY (a.natAbs:Int) (b.natAbs:Int):=by unfold Wh.LY;rw [if_neg ω];split <;> omega
 generalize Wh.LY (a.natAbs:Int) (b.natAbs:Int)=rr at *;have PO:=KO PO;clear hlt hd hd' VO PA';generalize (a.natAbs:Int)+-1*(b.natAbs:Int)=y at *;generalize Wh.a_ b.natAbs=ys,Wh.a_ a.natAbs=xs,a+b=z at *;generalize decide (z<0)=s,ys.length=l2,xs.length=l1 at *;obtain ⟨w3,hw3,b1,b2,b3,hB⟩:=ik w (.bool s1) (.slice aa l1 y_) 145 (.bool (!s1)) (.slice ab l2 Kk) 145 (.bool false) (.slice none 0 0) 145;have i1:=b1.c0;have i2:=b1.c1;have i3:=b2.c0;have i4:=b2.c1;go_enter func189,ntmps189
 go_wp2_with (with_reducible refine Km (PO.out _ (Na.out _ hB) (O3.out _ hB)) fun wm MR=>?_;have n1:=b1.keep MR;have n2:=b2.keep MR;have n3:=b3.keep MR;have Bn:=p_ hB MR)
 clear i1 i2 i3 i4 b1 b2 b3 MR;have e1:=n1.c0;have e2:=n1.c1;have e3:=n2.c0;have e4:=n2.c1
 go_region_held3 (fun W=>W.cell? ⟨w,0,none⟩=some (.bool s1)/\W.cell? ⟨w,1,none⟩=some (.slice aa l1 y_)/\W.cell? ⟨w.heap.size+1,0,none⟩=some (.bool (!s1))/\W.cell? ⟨w.heap.size+1,1,none⟩=some (.slice ab l2 Kk)) (first | exact ⟨hlA,hlA,hlA,hlA⟩ | (go_split_ands;exact ⟨hlA,hlA,hlA,hlA⟩) | go_keep) ((first
  | ((with_reducible refine (PA.out _ (Na.out _ Bn.drew) (O3.out _ Bn.drew)).mono ?_);rintro e w4 ⟨v4,rfl,Ks,hb4⟩;have B4:=Bn.drew.trans (hb4.mono Bn.size);have r4:=n3.drew.keep hb4;have MH:=aE hb4 (ak e1);have NG:=aE hb4 (ak e2);have Oe:=aE hb4 (ak e3);have Pk:=aE hb4 (ak e4);(have z4:wm.heap.size<=w4.heap.size:=hb4.size))
  | ((with_reducible refine (PT.out _ _ _ Ks).mono ?_);rintro e w5 ⟨vc,rfl,hoc,hbc⟩;obtain ⟨ac,KX,rfl,hmc,LF⟩:=aF.view hoc;have B5:=p_ B4 hbc;have r5:=r4.keep hbc;have c0:=r5.c0;have c1:=r5.c1;have g0:=r5.f0;have g1:=r5.f1;have Pl:=aE hbc MH;have Qj:=aE hbc NG;have Sd:=aE hbc Oe;have Vn:=aE hbc Pk;clear LF hmc)
  | fail "ARMS"))
 all_goals
  exact Uk
end
end Go.Proofs.YtlnjcilaflfnlaaGreatDoor
