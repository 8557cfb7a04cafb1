/-
  Joined texts: contracts and plain lemmas.
-/
import Derived.Test.YtggekfbfechonaaGreatV1
import Derived.Test.YtggekfbfechonaaGreatV5
import Derived.Test.YtggekfbfechonaaGreatV2
set_option linter.unusedSimpArgs false
set_option linter.unusedVariables false
set_option maxRecDepth 100000
set_option maxHeartbeats 8000000
namespace Go.Proofs.YtggekfbfechonaaGreat
section
open Go.RowKit
def aH (W:World) (g:Nat) (T:TypeId) (xs:Array Value):Prop:=W.heap[g]?=some (.cells xs T (0,0))
namespace aH
variable {W W':World} {g:Nat} {T:TypeId} {xs:Array Value}
theorem lt (h:aH W g T xs):g<W.heap.size:=(Array.getElem?_eq_some_iff.1 h).1
theorem keep (h:aH W g T xs) (hb:Below W.heap.size W W'):aH W' g T xs:=(hb.block g h.lt).trans h
theorem new (w:World) (xs:Array Value) (T:TypeId):aH (w.alloc (.cells xs T)) w.heap.size T xs:=by
 show (w.heap.push (.cells xs T))[w.heap.size]?=_
 simp
theorem alloc (h:aH W g T xs) (o:Obj):aH (W.alloc o) g T xs:=h.keep ((xO _ _).alloc (xP _) o)
theorem drew (h:aH W g T xs):aH W.drew g T xs:=h
theorem cell (h:aH W g T xs) (i:Nat):W.cell? ⟨g,i,none⟩=xs[i]?:=by
 unfold aH at h;simp [World.cell?,h]
theorem xl (h:aH W g T xs) (i:Nat):W.frozen? ⟨g,i,none⟩=false:=by
 unfold aH at h;simp [World.frozen?,h]
theorem set (h:aH W g T xs) (i:Nat) (x:Value):aH (W.setCell ⟨g,i,none⟩ x) g T (xs.setIfInBounds i x):=by
 have hl:=h.lt;unfold aH at *;rw [World.setCell]
 show (W.heap.modify g _)[g]?=_
 rw [Array.getElem?_modify,if_pos rfl,h];rfl
theorem other (h:aH W g T xs) {k i:Nat} (hk:g≠k) (x:Value):aH (W.setCell ⟨k,i,none⟩ x) g T xs:=by
 unfold aH at *;rw [World.setCell]
 show (W.heap.modify k _)[g]?=_
 rw [Array.getElem?_modify,if_neg (fun e=>hk e.symm),h]
theorem box {u v:Value} (h:aH W g T #[u,v]):ak W g u v:=⟨h.cell 0,h.cell 1,h.xl 0,h.xl 1,h.lt⟩
theorem aN {u v x y:Value} (h:aH W g T #[u,v,x,y]):iE W g u v x y:=by
 refine ⟨h.cell 0,h.cell 1,h.cell 2,h.cell 3,h.xl 0,h.xl 1,h.xl 2,h.xl 3,h.lt⟩
theorem set2 {u v:Value} (h:aH W g T #[u,v]) (x y:Value):aH ((W.setCell ⟨g,0,none⟩ x).setCell ⟨g,1,none⟩ y) g T #[x,y]:=(h.set 0 x).set 1 y
theorem uG {u v p q:Value} (h:aH W g T #[u,v,p,q]) (x y z t:Value):aH ((((W.setCell ⟨g,0,none⟩ x).setCell ⟨g,1,none⟩ y).setCell ⟨g,2,none⟩ z).setCell ⟨g,3,none⟩ t) g T #[x,y,z,t]:=(((h.set 0 x).set 1 y).set 2 z).set 3 t
theorem b2 {u v:Value} (h:aH W g T #[u,v]):W.cell? ⟨g,0,none⟩=some u∧W.cell? ⟨g,1,none⟩=some v:=⟨h.cell 0,h.cell 1⟩
theorem yk {u v:Value} (h:aH W g T #[u,v]):W.cell? ⟨g,0,none⟩=some u∧W.cell? ⟨g,1,none⟩=some v∧W.frozen? ⟨g,0,none⟩=false∧W.frozen? ⟨g,1,none⟩=false:=⟨h.cell 0,h.cell 1,h.xl 0,h.xl 1⟩
theorem b4 {u v x y:Value} (h:aH W g T #[u,v,x,y]):W.cell? ⟨g,0,none⟩=some u∧W.cell? ⟨g,1,none⟩=some v∧W.cell? ⟨g,2,none⟩=some x∧W.cell? ⟨g,3,none⟩=some y:=⟨h.cell 0,h.cell 1,h.cell 2,h.cell 3⟩
theorem yF {u v x y:Value} (h:aH W g T #[u,v,x,y]):W.cell? ⟨g,0,none⟩=some u∧W.cell? ⟨g,1,none⟩=some v∧W.cell? ⟨g,2,none⟩=some x∧W.cell? ⟨g,3,none⟩=some y∧W.frozen? ⟨g,0,none⟩=false∧W.frozen? ⟨g,1,none⟩=false∧W.frozen? ⟨g,2,none⟩=false∧W.frozen? ⟨g,3,none⟩=false:=⟨h.cell 0,h.cell 1,h.cell 2,h.cell 3,h.xl 0,h.xl 1,h.xl 2,h.xl 3⟩
theorem one {u:Value} (h:aH W g T #[u]) (x:Value):aH (W.setCell ⟨g,0,none⟩ x) g T #[x]:=h.set 0 x
end aH
theorem bA (w:World) (o:Obj):Below w.heap.size w (w.alloc o):=(xO _ w).alloc (xP _) o
theorem pi (w:World) (xs1:Array Value) (T1:TypeId):∃ wc,w.alloc (.cells xs1 T1)=wc∧aH wc w.heap.size T1 xs1∧Below w.heap.size w wc:=
 ⟨_,rfl,aH.new w xs1 T1,bA w _⟩
theorem iD (w:World) (xs1:Array Value) (T1:TypeId) (xs2:Array Value) (T2:TypeId):∃ wc,(w.alloc (.cells xs1 T1)).alloc (.cells xs2 T2)=wc∧aH wc w.heap.size T1 xs1∧aH wc (w.heap.size+1) T2 xs2∧Below w.heap.size w wc:=by
 obtain ⟨wc,rfl,h1,hb⟩:=pi w xs1 T1;have h2:=aH.new (w.alloc (.cells xs1 T1)) xs2 T2;rw [xM] at h2;exact ⟨_,rfl,h1.alloc _,h2,hb.alloc hb.size _⟩
theorem fM (w:World) (xs1:Array Value) (T1:TypeId) (xs2:Array Value) (T2:TypeId) (Fi:Array Value) (T3:TypeId):∃ wc,((w.alloc (.cells xs1 T1)).alloc (.cells xs2 T2)).alloc (.cells Fi T3)=wc∧aH wc w.heap.size T1 xs1∧aH wc (w.heap.size+1) T2 xs2∧aH wc (w.heap.size+1+1) T3 Fi∧Below w.heap.size w wc:=by
 obtain ⟨wc,rfl,h1,h2,hb⟩:=iD w xs1 T1 xs2 T2;have h3:=aH.new ((w.alloc (.cells xs1 T1)).alloc (.cells xs2 T2)) Fi T3;rw [xM,xM] at h3;exact ⟨_,rfl,h1.alloc _,h2.alloc _,h3,hb.alloc hb.size _⟩
theorem fO (w:World) (xs1:Array Value) (T1:TypeId) (xs2:Array Value) (T2:TypeId) (Fi:Array Value) (T3:TypeId) (Od:Array Value) (T4:TypeId):∃ wc,(((w.alloc (.cells xs1 T1)).alloc (.cells xs2 T2)).alloc (.cells Fi T3)).alloc (.cells Od T4)=wc∧aH wc w.heap.size T1 xs1∧aH wc (w.heap.size+1) T2 xs2∧aH wc (w.heap.size+1+1) T3 Fi∧aH wc (w.heap.size+1+1+1) T4 Od∧Below w.heap.size w wc:=by
 obtain ⟨wc,rfl,h1,h2,h3,hb⟩:=fM w xs1 T1 xs2 T2 Fi T3;have h4:=aH.new (((w.alloc (.cells xs1 T1)).alloc (.cells xs2 T2)).alloc (.cells Fi T3)) Od T4;rw [xM,xM,xM] at h4;exact ⟨_,rfl,h1.alloc _,h2.alloc _,h3.alloc _,h4,hb.alloc hb.size _⟩
theorem aF.apart {W:World} {base g:Nat} {T:TypeId} {sl:Value} {xs:List Int} {ys:Array Value} (h:aF W base sl xs) (hv:aH W g T ys) (hT:T≠3):sl.ownBlock≠some g:=by
 intro e;obtain ⟨-,h⟩:=h
 rcases h with ⟨rfl,-⟩ | ⟨g',cap,cur,rfl,-,hh,-⟩
 ·simp [Value.ownBlock] at e
 simp only [Value.ownBlock,Option.some.injEq] at e;subst e;unfold aH at hv;rw [hv] at hh
 injection hh with hh
 injection hh with _ h2
 exact hT h2
theorem aF.iS {W:World} {base g i:Nat} {T:TypeId} {sl:Value} {xs:List Int} {ys:Array Value} (h:aF W base sl xs) (hv:aH W g T ys) (hT:T≠3) (x:Value):aF (W.setCell ⟨g,i,none⟩ x) base sl xs:=by
 refine World.ownsRow.kept (row:=some g) h ⟨rfl,rfl,rfl,by simp [go_sem],fun k hk hne=>?_⟩ (by
  cases hs:sl.ownBlock with
  | none=>exact Or.inl rfl
  | some k=>exact Or.inr fun e=>h.apart hv hT (by rw [hs];exact e))
 rw [World.setCell]
 show (W.heap.modify g _)[k]?=_
 rw [Array.getElem?_modify,if_neg (fun e=>hne (by rw [e]))]
theorem aF.bO {W:World} {base g:Nat} {T:TypeId} {sl:Value} {xs:List Int} {u v:Value} (h:aF W base sl xs) (hv:aH W g T #[u,v]) (hT:T≠3) (x y:Value):aF ((W.setCell ⟨g,0,none⟩ x).setCell ⟨g,1,none⟩ y) base sl xs:=
 (h.iS hv hT x).iS (hv.set 0 x) hT y
theorem aF.dH {W:World} {base g:Nat} {T:TypeId} {sl:Value} {xs:List Int} {u v p q:Value} (h:aF W base sl xs) (hv:aH W g T #[u,v,p,q]) (hT:T≠3) (x y z t:Value):aF ((((W.setCell ⟨g,0,none⟩ x).setCell ⟨g,1,none⟩ y).setCell ⟨g,2,none⟩ z).setCell ⟨g,3,none⟩ t) base sl xs:=
 (((h.iS hv hT x).iS (hv.set 0 x) hT y).iS ((hv.set 0 x).set 1 y) hT z).iS (((hv.set 0 x).set 1 y).set 2 z) hT t
theorem kO {w w':World} {base:Nat} {sl:Value} {xs:List Int} (h:Hid (aF w base sl xs)) (hb:Below w.heap.size w w'):Hid (aF w' base sl xs):=xL (aF.below h.out hb)
theorem sO {W:World} {base g:Nat} {T:TypeId} {sl:Value} {xs:List Int} {u v:Value} (h:Hid (aF W base sl xs)) (hv:aH W g T #[u,v]) (hT:T≠3) (x y:Value):Hid (aF ((W.setCell ⟨g,0,none⟩ x).setCell ⟨g,1,none⟩ y) base sl xs):=xL (h.out.bO hv hT x y)
def aJ (base:Nat) (z:Int) (v:Value) (W:World):Prop:=∃ sl,v=.agg #[.bool (decide (z<0)),sl]∧aF W base sl (Wh.a_ z.natAbs)
theorem aJ.view {base:Nat} {z:Int} {v:Value} {W:World} (h:aJ base z v W):∃ (s:Bool) (a:Option Addr) (l c:Nat),Hid (s=decide (z<0))∧v=.agg #[.bool s,.slice a l c]∧aF W base (.slice a l c) (Wh.a_ z.natAbs):=by
 obtain ⟨sl,rfl,ho⟩:=h;obtain ⟨a,c,rfl,-,-⟩:=aF.view ho;exact ⟨_,a,_,c,xL rfl,rfl,ho⟩
theorem aJ.KH {base k:Nat} {z:Int} {sl:Value} {W:World} (h:aF W k sl (Wh.a_ z.natAbs)) (hk:base≤k):(Rg.Val.at (aJ base z)).ok (.agg #[.bool (decide (z<0)),sl]) W:=fun _ hb=>⟨sl,rfl,(aF.below h hb).base hk⟩
theorem aJ.at {base k:Nat} {z:Int} {sl:Value} {W:World} (h:aj W k sl z) (hk:base≤k):(Rg.Val.at (aJ base z)).ok (.agg #[.bool (decide (z<0)),sl]) W:=aJ.KH h hk
def tN (base:Nat) (z r:Int) (v:Value) (W:World):Prop:=∃ sl,v=.tuple #[.agg #[.bool (decide (z<0)),sl],.int .i64 r]∧aF W base sl (Wh.a_ z.natAbs)
theorem tN.view {base:Nat} {z r:Int} {v:Value} {W:World} (h:tN base z r v W):∃ (s:Bool) (a:Option Addr) (l c:Nat),Hid (s=decide (z<0))∧v=.tuple #[.agg #[.bool s,.slice a l c],.int .i64 r]∧aF W base (.slice a l c) (Wh.a_ z.natAbs):=by
 obtain ⟨sl,rfl,ho⟩:=h;obtain ⟨a,c,rfl,-,-⟩:=aF.view ho;exact ⟨_,a,_,c,xL rfl,rfl,ho⟩
theorem tN.at {base k:Nat} {z r:Int} {sl:Value} {W:World} (h:aj W k sl z) (hk:base≤k):(Rg.Val.at (tN base z r)).ok (.tuple #[.agg #[.bool (decide (z<0)),sl],.int .i64 r]) W:=fun _ hb=>⟨sl,rfl,(aF.below h hb).base hk⟩
def b9 (base:Nat) (zs:List Int) (v:Value) (W:World):Prop:=∃ g,v=.slice (some ⟨g,0,none⟩) zs.length zs.length∧bq W g zs
inductive bi (W:World):List Int→List Value→Prop where
 | nil:bi W [] []
 | cons {z:Int} {zs:List Int} {s:Bool} {a:Option Addr} {l c b:Nat} {us:List Value} (hs:s=decide (z<0)) (ho:aF W b (.slice a l c) (Wh.a_ z.natAbs)) (h:bi W zs us):bi W (z :: zs) (.bool s :: .slice a l c :: us)
theorem bi.get {W:World}:∀ {zs:List Int} {us:List Value},bi W zs us→∀ (k:Nat) (z:Int),zs[k]?=some z→∃ (a:Option Addr) (cap:Nat),us[k*2]?=some (.bool (decide (z<0)))∧us[k*2+1]?=some (.slice a (Wh.a_ z.natAbs).length cap)∧aF W 0 (.slice a (Wh.a_ z.natAbs).length cap) (Wh.a_ z.natAbs)
 | _,_,.nil,k,z,h=>by simp at h
 | _,_,.cons (l:=l) hs ho hr,0,z,h=>by
  simp only [List.getElem?_cons_zero,Option.some.injEq] at h;subst h;subst hs;obtain ⟨a',c',e,-,-⟩:=aF.view ho
  injection e with e1 e2 e3
  subst e1 e2 e3;exact ⟨_,_,rfl,rfl,ho.base (Nat.zero_le _)⟩
 | _,_,.cons hs ho hr,k+1,z,h=>by
  obtain ⟨a,cap,h1,h2,h3⟩:=hr.get k z (by simpa using h);refine ⟨a,cap,?_,?_,h3⟩
  ·rw [show (k+1)*2=k*2+1+1 by omega];simpa using h1
  rw [show (k+1)*2+1=k*2+1+1+1 by omega];simpa using h2
theorem b9.at {base:Nat} {zs:List Int} {us:List Value} {W:World} {T:TypeId} {n:Nat} (hb:base≤W.heap.size) (h:bi W zs us) (hn:n=zs.length):(Rg.Val.at (b9 base zs)).ok (.slice (some ⟨W.heap.size,0,none⟩) n n) (W.alloc (.cells us.toArray T)):=by
 subst hn
 refine fun w' hb'=>⟨W.heap.size,rfl,fun k z hz=>?_⟩
 obtain ⟨a,cap,h1,h2,h3⟩:=h.get k z hz;have hv:=(aH.new W us.toArray T).keep hb';refine ⟨a,cap,(hv.cell _).trans (by simpa using h1),(hv.cell _).trans (by simpa using h2),aF.below (aF.alloc h3 _) hb'⟩
def wB (base:Nat) (T:TypeId) (xs:Array Value) (v:Value) (W:World):Prop:=∃ g,base≤g∧v=.pointer (some ⟨g,0,none⟩)∧aH W g T xs
theorem wB.at {base:Nat} {T:TypeId} {xs:Array Value} {W:World} (hb:base≤W.heap.size):(Rg.Val.at (wB base T xs)).ok (.pointer (some ⟨W.heap.size,0,none⟩)) (W.alloc (.cells xs T)):=
 fun _ hb'=>⟨_,hb,rfl,(aH.new W xs T).keep hb'⟩
theorem Rg.vR {P:Program} {Q:Exit→Act→World→Prop} {ops:Array Oper} {o:Oper} {a:Act} {w:World} {x:Value} {V:Rg.Val} (hw:Region.wanted o (yielded ops a.tmps)=true) (h:(execOp a.eval o).run P w=.ok (.value x) w) (hV:V.ok x w):Rg.Does P ops Q V o a w:=by
 unfold Rg.Does;rw [if_pos hw];unfold Oper.wp;rw [h];exact ⟨x,rfl,hV,xO _ _⟩
theorem nM (w3:World) (n:Nat) (hn:w3.heap.size=n) (u v x y:Value) (T:TypeId) :
  (∃ gx gz,n≤gx∧n≤gz∧Value.pointer (some ⟨n,0,none⟩)=.pointer (some ⟨gx,0,none⟩)∧Value.pointer (some ⟨n+1,0,none⟩)=.pointer (some ⟨gz,0,none⟩)∧aH ((w3.alloc (.cells #[u,v] T)).alloc (.cells #[x,y] T)).drew gx T #[u,v]∧aH ((w3.alloc (.cells #[u,v] T)).alloc (.cells #[x,y] T)).drew gz T #[x,y]∧Below n w3 ((w3.alloc (.cells #[u,v] T)).alloc (.cells #[x,y] T)).drew)∧
  (∃ gx gz,n≤gx∧n≤gz∧Value.pointer (some ⟨n+1,0,none⟩)=.pointer (some ⟨gx,0,none⟩)∧Value.pointer (some ⟨n,0,none⟩)=.pointer (some ⟨gz,0,none⟩)∧aH ((w3.alloc (.cells #[u,v] T)).alloc (.cells #[x,y] T)).drew gx T #[x,y]∧aH ((w3.alloc (.cells #[u,v] T)).alloc (.cells #[x,y] T)).drew gz T #[u,v]∧Below n w3 ((w3.alloc (.cells #[u,v] T)).alloc (.cells #[x,y] T)).drew):=by
 subst hn;have h1:aH ((w3.alloc (.cells #[u,v] T)).alloc (.cells #[x,y] T)).drew w3.heap.size T #[u,v]:=(aH.new w3 #[u,v] T).alloc _
 have h2:aH ((w3.alloc (.cells #[u,v] T)).alloc (.cells #[x,y] T)).drew (w3.heap.size+1) T #[x,y]:=by
  have:=aH.new (w3.alloc (.cells #[u,v] T)) #[x,y] T;rw [xM] at this;exact this
 have hb:Below w3.heap.size w3 ((w3.alloc (.cells #[u,v] T)).alloc (.cells #[x,y] T)).drew:=(((xO _ _).alloc (xP _) _).alloc (by rw [xM];omega) _).drew;exact ⟨⟨_,_,xP _,Nat.le_succ _,rfl,rfl,h1,h2,hb⟩,⟨_,_,Nat.le_succ _,xP _,rfl,rfl,h2,h1,hb⟩⟩
theorem gC (a b x z:Int) (vx vz:Value) (w:World) (bx bz:Nat) (hox:aj w bx vx x) (yW:aj w bz vz z) (hx:Wh.sz x 1000) (hz:Wh.sz z 1000) (ha1:-1000≤a) (ha2:a≤1000) (hb1:-10000≤b) (hb2:b≤10000) :
  Calls Tryz.prog 180 #[.agg #[.int .i64 a,.int .i64 b],.agg #[.bool (decide (x<0)),vx,.bool (decide (z<0)),vz]] w fun e w'=>∃ sl,e=.returned (.agg #[.bool (decide (Wh.bE a b x z<0)),sl])∧aj w' w.heap.size sl (Wh.bE a b x z)∧Below w.heap.size w w':=by
 obtain ⟨ax,cx,rfl,-,-⟩:=aF.view hox;obtain ⟨az,cz,rfl,-,-⟩:=aF.view yW;have hq1:Wh.sz (-2*a) 1000:=Wh.aQ (Wh.bc (by omega) (by omega)) (by omega);have hq2:Wh.sz (-8*b) 1000:=Wh.aQ (Wh.bc (by omega) (by omega)) (by omega);have haa:-1000000≤a*a∧a*a≤1000000:=M.aL (x:=a) (y:=a) (m:=1000) (n:=1000) (by omega) (by omega) (by omega) (by omega);have hq3:Wh.sz (a*a) 1000:=Wh.aQ (Wh.bc (by omega) (by omega)) (by omega)
 have mm:∀ (l:List Int),(∀ y ∈ l,Wh.sz y 1000)→l.length≤5→∀ k,Wh.small ((l.take k).foldl (·*·) 1):=fun l h hl k=>Wh.cL (Wh.aQ (Wh.iB h k) (show 1+l.length*1000≤8000 by omega)) (by omega)
 have mp:∀ (l:List Int),(∀ y ∈ l,Wh.sz y 1000)→l.length≤5→Wh.sz (l.foldl (·*·) 1) 6000:=fun l h hl=>by have:=Wh.iB h l.length;rw [List.take_length] at this;exact Wh.aQ this (by omega)
 have m0:∀ (l:List Int),(∀ y ∈ l,Wh.sz y 1000)→∀ y ∈ l,Wh.small y:=fun l h y hy=>Wh.cL (h y hy) (by omega)
 have m1:∀ y ∈ ([x,x,x,x]:List Int),Wh.sz y 1000:=by intro y h;simp only [List.mem_cons,List.not_mem_nil,or_false] at h;rcases h with h | h | h | h <;> (subst h;assumption)
 have R1:=fun g cap W (h:bq W g [x,x,x,x])=>bf [x,x,x,x] g cap W h (by simp) (m0 _ m1) (mm _ m1 (by simp))
 have p1:=mp _ m1 (by simp)
 have m2:∀ y ∈ ([-2*a,x,x,z,z]:List Int),Wh.sz y 1000:=by intro y h;simp only [List.mem_cons,List.not_mem_nil,or_false] at h;rcases h with h | h | h | h | h <;> (subst h;assumption)
 have R2:=fun g cap W (h:bq W g [-2*a,x,x,z,z])=>bf [-2*a,x,x,z,z] g cap W h (by simp) (m0 _ m2) (mm _ m2 (by simp))
 have p2:=mp _ m2 (by simp)
 have m3:∀ y ∈ ([-8*b,x,z,z,z]:List Int),Wh.sz y 1000:=by intro y h;simp only [List.mem_cons,List.not_mem_nil,or_false] at h;rcases h with h | h | h | h | h <;> (subst h;assumption)
 have R3:=fun g cap W (h:bq W g [-8*b,x,z,z,z])=>bf [-8*b,x,z,z,z] g cap W h (by simp) (m0 _ m3) (mm _ m3 (by simp))
 have p3:=mp _ m3 (by simp)
 have m4:∀ y ∈ ([a*a,z,z,z,z]:List Int),Wh.sz y 1000:=by intro y h;simp only [List.mem_cons,List.not_mem_nil,or_false] at h;rcases h with h | h | h | h | h <;> (subst h;assumption)
 have R4:=fun g cap W (h:bq W g [a*a,z,z,z,z])=>bf [a*a,z,z,z,z] g cap W h (by simp) (m0 _ m4) (mm _ m4 (by simp))
 have p4:=mp _ m4 (by simp);have hT:=Wh.qd a b x z;generalize hp1:([x,x,x,x]:List Int).foldl (·*·) 1=Be at *;generalize hp2:([-2*a,x,x,z,z]:List Int).foldl (·*·) 1=Bf at *;generalize hp3:([-8*b,x,z,z,z]:List Int).foldl (·*·) 1=Bg at *;generalize Ip:([a*a,z,z,z,z]:List Int).foldl (·*·) 1=Gq at *
 have ms:∀ y ∈ [Be,Bf,Bg,Gq],Wh.sz y 6000:=by intro y h;simp only [List.mem_cons,List.not_mem_nil,or_false] at h;rcases h with h | h | h | h <;> (subst h;assumption)
 have R5:=fun g cap W (h:bq W g [Be,Bf,Bg,Gq])=>ie [Be,Bf,Bg,Gq] g cap W h (by simp) (fun y hy=>Wh.cL (ms y hy) (by omega)) (fun k=>Wh.cL (Wh.aQ (Wh.li ms (by omega) k) (show 6000+4≤7000 by omega)) (by omega))
 rw [hT] at R5
 have N1:=fun W=>bj (-2*a) W (by omega) (by omega)
 have N2:=fun W=>bj (-8*b) W (by omega) (by omega)
 have N3:=fun W=>bj (a*a) W (by omega) (by omega)
 have i1:IntKind.i64.wrap (-2*a)=-2*a:=IntWalk.i64_in _ (by omega);have i2:IntKind.i64.wrap (-8*b)=-8*b:=IntWalk.i64_in _ (by omega);have i3:IntKind.i64.wrap (a*a)=a*a:=IntWalk.i64_in _ (by omega);clear m1 m2 m3 m4 p1 p2 p3 p4 hp1 hp2 hp3 Ip ms mm mp m0 hT;replace R1:=xL R1;replace R2:=xL R2;replace R3:=xL R3;replace R4:=xL R4;replace R5:=xL R5;replace N1:=xL N1;replace N2:=xL N2;replace N3:=xL N3;replace i1:=xL i1;replace i2:=xL i2;replace i3:=xL i3;generalize hF:Wh.bE a b x z=F at *;clear hF;generalize hs1:decide (x<0)=s1 at *;replace hs1:=xL hs1.symm;generalize hs2:decide (z<0)=s2 at *;replace hs2:=xL hs2.symm;replace hox:=xL (show aF _ _ _ _ from hox);replace yW:=xL (show aF _ _ _ _ from yW);generalize (Wh.a_ z.natAbs).length=lz,(Wh.a_ x.natAbs).length=lx at *;have b1:=((aH.new w #[.int .i64 a,.int .i64 b] 25).alloc (.cells #[.bool s1,.slice ax lx cx,.bool s2,.slice az lz cz] 127)).alloc (.cells #[.bool false,.slice none 0 0] 125);have b2:=(aH.new (w.alloc (.cells #[.int .i64 a,.int .i64 b] 25)) #[.bool s1,.slice ax lx cx,.bool s2,.slice az lz cz] 127).alloc (.cells #[.bool false,.slice none 0 0] 125);rw [xM] at b2;have b3:=aH.new ((w.alloc (.cells #[.int .i64 a,.int .i64 b] 25)).alloc (.cells #[.bool s1,.slice ax lx cx,.bool s2,.slice az lz cz] 127)) #[.bool false,.slice none 0 0] 125;rw [cm] at b3;have hB:=(((xO w.heap.size w).alloc (xP _) (.cells #[.int .i64 a,.int .i64 b] 25)).alloc (by rw [xM];omega) (.cells #[.bool s1,.slice ax lx cx,.bool s2,.slice az lz cz] 127)).alloc (by rw [cm];omega) (.cells #[.bool false,.slice none 0 0] 125)
 have hz3:(((w.alloc (.cells #[.int .i64 a,.int .i64 b] 25)).alloc (.cells #[.bool s1,.slice ax lx cx,.bool s2,.slice az lz cz] 127)).alloc (.cells #[.bool false,.slice none 0 0] 125)).heap.size=w.heap.size+3:=by rw [xM,cm]
 have A_:=xL (aF.alloc (aF.alloc (aF.alloc hox.out (.cells #[.int .i64 a,.int .i64 b] 25)) (.cells #[.bool s1,.slice ax lx cx,.bool s2,.slice az lz cz] 127)) (.cells #[.bool false,.slice none 0 0] 125));have BA:=xL (aF.alloc (aF.alloc (aF.alloc yW.out (.cells #[.int .i64 a,.int .i64 b] 25)) (.cells #[.bool s1,.slice ax lx cx,.bool s2,.slice az lz cz] 127)) (.cells #[.bool false,.slice none 0 0] 125));clear hox yW;generalize hw3:((w.alloc (.cells #[.int .i64 a,.int .i64 b] 25)).alloc (.cells #[.bool s1,.slice ax lx cx,.bool s2,.slice az lz cz] 127)).alloc (.cells #[.bool false,.slice none 0 0] 125)=w3 at *;have e0:=b2.aN.c0;have e1:=b2.aN.c1;have e2:=b2.aN.c2;have e3:=b2.aN.c3;go_enter Tryz.func180,Tryz.ntmps180
 go_wp2
 go_upto_region 1 with fail
 go_cut [5,6] (fun p q wx=>∃ gx gz,w.heap.size+3≤gx∧w.heap.size+3≤gz∧p=.pointer (some ⟨gx,0,none⟩)∧q=.pointer (some ⟨gz,0,none⟩)∧aH wx gx 125 #[.bool s1,.slice ax lx cx]∧aH wx gz 125 #[.bool s2,.slice az lz cz]∧Below (w.heap.size+3) w3 wx)
 case first=>
  go_region
  all_goals
   go_wp2_with fail
   go_meet
   first
   | exact (nM _ _ hz3 _ _ _ _ _).1
   | exact (nM _ _ hz3 _ _ _ _ _).2
 case rest=>
 obtain ⟨gx,gz,hgx,hgz,rfl,rfl,X,Z,hbx⟩:=hcut;rw [←hz3] at hbx;have ox:=xL (aF.below A_.out hbx);have oz:=xL (aF.below BA.out hbx);have C:=b1.keep hbx;have R:=b3.keep hbx;have hw:=d_ hB hbx
 have DM:w.heap.size+3≤wc.heap.size:=by have:=hbx.size;omega
 clear hz3;clear b1 b2 b3 e0 e1 e2 e3 hB hbx A_ BA
 go_upto_region 2 with fail
 refine Rg.bS 40 [.is (.agg #[.bool s1,.slice ax lx cx]),.is (.agg #[.bool s1,.slice ax lx cx]),.is (.agg #[.bool s1,.slice ax lx cx]),.is (.agg #[.bool s1,.slice ax lx cx]),.at (b9 (wc.heap.size) [x,x,x,x]),.at (aJ (wc.heap.size) (Be)),.is (.pointer (some ⟨w.heap.size,0,none⟩)),.is (.int .i64 a),.is (.int .i64 ((-2)*a)),.at (aJ (wc.heap.size) (-2*a)),.is (.agg #[.bool s1,.slice ax lx cx]),.is (.agg #[.bool s1,.slice ax lx cx]),.is (.agg #[.bool s2,.slice az lz cz]),.is (.agg #[.bool s2,.slice az lz cz]),.at (b9 (wc.heap.size) [-2*a,x,x,z,z]),.at (aJ (wc.heap.size) (Bf)),.is (.pointer (some ⟨w.heap.size,1,none⟩)),.is (.int .i64 b),.is (.int .i64 ((-8)*b)),.at (aJ (wc.heap.size) (-8*b)),.is (.agg #[.bool s1,.slice ax lx cx]),.is (.agg #[.bool s2,.slice az lz cz]),.is (.agg #[.bool s2,.slice az lz cz]),.is (.agg #[.bool s2,.slice az lz cz]),.at (b9 (wc.heap.size) [-8*b,x,z,z,z]),.at (aJ (wc.heap.size) (Bg)),.is (.pointer (some ⟨w.heap.size,0,none⟩)),.is (.int .i64 a),.is (.pointer (some ⟨w.heap.size,0,none⟩)),.is (.int .i64 a),.is (.int .i64 (a*a)),.at (aJ (wc.heap.size) (a*a)),.is (.agg #[.bool s2,.slice az lz cz]),.is (.agg #[.bool s2,.slice az lz cz]),.is (.agg #[.bool s2,.slice az lz cz]),.is (.agg #[.bool s2,.slice az lz cz]),.at (b9 (wc.heap.size) [a*a,z,z,z,z]),.at (aJ (wc.heap.size) (Gq)),.at (b9 (wc.heap.size) [Be,Bf,Bg,Gq]),.at (aJ (wc.heap.size) (F))] (by kernel_rfl) (by kernel_rfl) (by kernel_rfl) ⟨?_,?_,?_,?_,?_,?_,?_,?_,?_,?_,?_,?_,?_,?_,?_,?_,?_,?_,?_,?_,?_,?_,?_,?_,?_,?_,?_,?_,?_,?_,?_,?_,?_,?_,?_,?_,?_,?_,?_,?_,fun h_=>absurd h_ (by decide),trivial⟩ ?_
 ·intro _ zZ w_ hB hr
  have e5:zZ.tmps[5]?=some (.pointer (some ⟨gx,0,none⟩)):=hr 5 (by decide);have k0:=aE hB X.box.c0;have k1:=aE hB X.box.c1;exact Rg.aG rfl (by go_simp)
 ·intro _ zZ w_ hB hr
  have e5:zZ.tmps[5]?=some (.pointer (some ⟨gx,0,none⟩)):=hr 5 (by decide);have k0:=aE hB X.box.c0;have k1:=aE hB X.box.c1;exact Rg.aG rfl (by go_simp)
 ·intro _ zZ w_ hB hr
  have e5:zZ.tmps[5]?=some (.pointer (some ⟨gx,0,none⟩)):=hr 5 (by decide);have k0:=aE hB X.box.c0;have k1:=aE hB X.box.c1;exact Rg.aG rfl (by go_simp)
 ·intro _ zZ w_ hB hr
  have e5:zZ.tmps[5]?=some (.pointer (some ⟨gx,0,none⟩)):=hr 5 (by decide);have k0:=aE hB X.box.c0;have k1:=aE hB X.box.c1;exact Rg.aG rfl (by go_simp)
 ·intro _ zZ w_ hB hr
  have e11:=Rg.c_ (hr 11 (by decide));have e12:=Rg.c_ (hr 12 (by decide));have e13:=Rg.c_ (hr 13 (by decide));have e14:=Rg.c_ (hr 14 (by decide));refine Rg.ju rfl (x:=.slice (some ⟨w_.heap.size,0,none⟩) 4 4) (ob:=.cells (List.toArray [.bool s1,.slice ax lx cx,.bool s1,.slice ax lx cx,.bool s1,.slice ax lx cx,.bool s1,.slice ax lx cx]) 125) (by first | (go_simp;done) | (go_simp;exact ⟨rfl,rfl⟩) | (go_simp;rfl)) (b9.at (by have:=hB.size;omega) ?_ rfl);exact bi.cons hs1.out (aF.below ox.out hB) (bi.cons hs1.out (aF.below ox.out hB) (bi.cons hs1.out (aF.below ox.out hB) (bi.cons hs1.out (aF.below ox.out hB) (bi.nil))))
 ·intro _ zZ w_ hB hr
  obtain ⟨v15,e15,n15⟩:∃ v,zZ.tmps[15]?=some v∧(Rg.Val.at (b9 (wc.heap.size) [x,x,x,x])).ok v w_:=hr 15 (by decide);obtain ⟨g15,rfl,DC⟩:=Rg.ah n15;have ef:=Rg.ef zZ;refine Rg.ae rfl (by go_simp;exact ⟨rfl,rfl⟩) ?_;refine (R1.out _ _ _ DC).mono ?_;rintro e w5 ⟨yQ,rfl,xg,hb5⟩;exact ⟨_,rfl,aJ.at xg (by have:=hB.size;omega),hb5⟩
 ·intro _ zZ w_ hB hr
  have e2:zZ.tmps[2]?=some (.pointer (some ⟨w.heap.size,0,none⟩)):=hr 2 (by decide);exact Rg.aG rfl (by go_simp)
 ·intro _ zZ w_ hB hr
  have e17:=Rg.c_ (hr 17 (by decide));have k0:=aE hB C.box.c0;exact Rg.aG rfl (by go_simp)
 ·intro _ zZ w_ hB hr
  have e18:=Rg.c_ (hr 18 (by decide));have ec:=Rg.ec zZ;exact Rg.aG rfl (by go_simp <;> exact Rg.wo (by omega))
 ·intro _ zZ w_ hB hr
  have e19:=Rg.c_ (hr 19 (by decide));have ef:=Rg.ef zZ;refine Rg.ae rfl (by go_simp;exact ⟨rfl,rfl⟩) ?_;refine (N1.out _).mono ?_;rintro e w5 ⟨yQ,rfl,xg,hb5⟩;exact ⟨_,rfl,aJ.at xg (by have:=hB.size;omega),hb5⟩
 ·intro _ zZ w_ hB hr
  have e5:zZ.tmps[5]?=some (.pointer (some ⟨gx,0,none⟩)):=hr 5 (by decide);have k0:=aE hB X.box.c0;have k1:=aE hB X.box.c1;exact Rg.aG rfl (by go_simp)
 ·intro _ zZ w_ hB hr
  have e5:zZ.tmps[5]?=some (.pointer (some ⟨gx,0,none⟩)):=hr 5 (by decide);have k0:=aE hB X.box.c0;have k1:=aE hB X.box.c1;exact Rg.aG rfl (by go_simp)
 ·intro _ zZ w_ hB hr
  have e6:zZ.tmps[6]?=some (.pointer (some ⟨gz,0,none⟩)):=hr 6 (by decide);have k0:=aE hB Z.box.c0;have k1:=aE hB Z.box.c1;exact Rg.aG rfl (by go_simp)
 ·intro _ zZ w_ hB hr
  have e6:zZ.tmps[6]?=some (.pointer (some ⟨gz,0,none⟩)):=hr 6 (by decide);have k0:=aE hB Z.box.c0;have k1:=aE hB Z.box.c1;exact Rg.aG rfl (by go_simp)
 ·intro _ zZ w_ hB hr
  obtain ⟨v20,e20,n20⟩:∃ v,zZ.tmps[20]?=some v∧(Rg.Val.at (aJ (wc.heap.size) (-2*a))).ok v w_:=hr 20 (by decide);obtain ⟨s20,a20,l20,c20,NA,rfl,o20⟩:=(Rg.ah n20).view;have e21:=Rg.c_ (hr 21 (by decide));have e22:=Rg.c_ (hr 22 (by decide));have e23:=Rg.c_ (hr 23 (by decide));have e24:=Rg.c_ (hr 24 (by decide));refine Rg.ju rfl (x:=.slice (some ⟨w_.heap.size,0,none⟩) 5 5) (ob:=.cells (List.toArray [.bool s20,.slice a20 l20 c20,.bool s1,.slice ax lx cx,.bool s1,.slice ax lx cx,.bool s2,.slice az lz cz,.bool s2,.slice az lz cz]) 125) (by first | (go_simp;done) | (go_simp;exact ⟨rfl,rfl⟩) | (go_simp;rfl)) (b9.at (by have:=hB.size;omega) ?_ rfl);exact bi.cons NA.out o20 (bi.cons hs1.out (aF.below ox.out hB) (bi.cons hs1.out (aF.below ox.out hB) (bi.cons hs2.out (aF.below oz.out hB) (bi.cons hs2.out (aF.below oz.out hB) (bi.nil)))))
 ·intro _ zZ w_ hB hr
  obtain ⟨v25,e25,n25⟩:∃ v,zZ.tmps[25]?=some v∧(Rg.Val.at (b9 (wc.heap.size) [-2*a,x,x,z,z])).ok v w_:=hr 25 (by decide);obtain ⟨g25,rfl,Jx⟩:=Rg.ah n25;have ef:=Rg.ef zZ;refine Rg.ae rfl (by go_simp;exact ⟨rfl,rfl⟩) ?_;refine (R2.out _ _ _ Jx).mono ?_;rintro e w5 ⟨yQ,rfl,xg,hb5⟩;exact ⟨_,rfl,aJ.at xg (by have:=hB.size;omega),hb5⟩
 ·intro _ zZ w_ hB hr
  have e2:zZ.tmps[2]?=some (.pointer (some ⟨w.heap.size,0,none⟩)):=hr 2 (by decide);exact Rg.aG rfl (by go_simp)
 ·intro _ zZ w_ hB hr
  have e27:=Rg.c_ (hr 27 (by decide));have k1:=aE hB C.box.c1;exact Rg.aG rfl (by go_simp)
 ·intro _ zZ w_ hB hr
  have e28:=Rg.c_ (hr 28 (by decide));have ec:=Rg.ec zZ;exact Rg.aG rfl (by go_simp <;> exact Rg.wo (by omega))
 ·intro _ zZ w_ hB hr
  have e29:=Rg.c_ (hr 29 (by decide));have ef:=Rg.ef zZ;refine Rg.ae rfl (by go_simp;exact ⟨rfl,rfl⟩) ?_;refine (N2.out _).mono ?_;rintro e w5 ⟨yQ,rfl,xg,hb5⟩;exact ⟨_,rfl,aJ.at xg (by have:=hB.size;omega),hb5⟩
 ·intro _ zZ w_ hB hr
  have e5:zZ.tmps[5]?=some (.pointer (some ⟨gx,0,none⟩)):=hr 5 (by decide);have k0:=aE hB X.box.c0;have k1:=aE hB X.box.c1;exact Rg.aG rfl (by go_simp)
 ·intro _ zZ w_ hB hr
  have e6:zZ.tmps[6]?=some (.pointer (some ⟨gz,0,none⟩)):=hr 6 (by decide);have k0:=aE hB Z.box.c0;have k1:=aE hB Z.box.c1;exact Rg.aG rfl (by go_simp)
 ·intro _ zZ w_ hB hr
  have e6:zZ.tmps[6]?=some (.pointer (some ⟨gz,0,none⟩)):=hr 6 (by decide);have k0:=aE hB Z.box.c0;have k1:=aE hB Z.box.c1;exact Rg.aG rfl (by go_simp)
 ·intro _ zZ w_ hB hr
  have e6:zZ.tmps[6]?=some (.pointer (some ⟨gz,0,none⟩)):=hr 6 (by decide);have k0:=aE hB Z.box.c0;have k1:=aE hB Z.box.c1;exact Rg.aG rfl (by go_simp)
 ·intro _ zZ w_ hB hr
  obtain ⟨v30,e30,n30⟩:∃ v,zZ.tmps[30]?=some v∧(Rg.Val.at (aJ (wc.heap.size) (-8*b))).ok v w_:=hr 30 (by decide);obtain ⟨s30,a30,l30,c30,NF,rfl,o30⟩:=(Rg.ah n30).view;have e31:=Rg.c_ (hr 31 (by decide));have e32:=Rg.c_ (hr 32 (by decide));have e33:=Rg.c_ (hr 33 (by decide));have e34:=Rg.c_ (hr 34 (by decide));refine Rg.ju rfl (x:=.slice (some ⟨w_.heap.size,0,none⟩) 5 5) (ob:=.cells (List.toArray [.bool s30,.slice a30 l30 c30,.bool s1,.slice ax lx cx,.bool s2,.slice az lz cz,.bool s2,.slice az lz cz,.bool s2,.slice az lz cz]) 125) (by first | (go_simp;done) | (go_simp;exact ⟨rfl,rfl⟩) | (go_simp;rfl)) (b9.at (by have:=hB.size;omega) ?_ rfl);exact bi.cons NF.out o30 (bi.cons hs1.out (aF.below ox.out hB) (bi.cons hs2.out (aF.below oz.out hB) (bi.cons hs2.out (aF.below oz.out hB) (bi.cons hs2.out (aF.below oz.out hB) (bi.nil)))))
 ·intro _ zZ w_ hB hr
  obtain ⟨v35,e35,n35⟩:∃ v,zZ.tmps[35]?=some v∧(Rg.Val.at (b9 (wc.heap.size) [-8*b,x,z,z,z])).ok v w_:=hr 35 (by decide);obtain ⟨g35,rfl,Nz⟩:=Rg.ah n35;have ef:=Rg.ef zZ;refine Rg.ae rfl (by go_simp;exact ⟨rfl,rfl⟩) ?_;refine (R3.out _ _ _ Nz).mono ?_;rintro e w5 ⟨yQ,rfl,xg,hb5⟩;exact ⟨_,rfl,aJ.at xg (by have:=hB.size;omega),hb5⟩
 ·intro _ zZ w_ hB hr
  have e2:zZ.tmps[2]?=some (.pointer (some ⟨w.heap.size,0,none⟩)):=hr 2 (by decide);exact Rg.aG rfl (by go_simp)
 ·intro _ zZ w_ hB hr
  have e37:=Rg.c_ (hr 37 (by decide));have k0:=aE hB C.box.c0;exact Rg.aG rfl (by go_simp)
 ·intro _ zZ w_ hB hr
  have e2:zZ.tmps[2]?=some (.pointer (some ⟨w.heap.size,0,none⟩)):=hr 2 (by decide);exact Rg.aG rfl (by go_simp)
 ·intro _ zZ w_ hB hr
  have e39:=Rg.c_ (hr 39 (by decide));have k0:=aE hB C.box.c0;exact Rg.aG rfl (by go_simp)
 ·intro _ zZ w_ hB hr
  have e38:=Rg.c_ (hr 38 (by decide));have e40:=Rg.c_ (hr 40 (by decide));exact Rg.aG rfl (by go_simp <;> exact Rg.wo (by omega))
 ·intro _ zZ w_ hB hr
  have e41:=Rg.c_ (hr 41 (by decide));have ef:=Rg.ef zZ;refine Rg.ae rfl (by go_simp;exact ⟨rfl,rfl⟩) ?_;refine (N3.out _).mono ?_;rintro e w5 ⟨yQ,rfl,xg,hb5⟩;exact ⟨_,rfl,aJ.at xg (by have:=hB.size;omega),hb5⟩
 ·intro _ zZ w_ hB hr
  have e6:zZ.tmps[6]?=some (.pointer (some ⟨gz,0,none⟩)):=hr 6 (by decide);have k0:=aE hB Z.box.c0;have k1:=aE hB Z.box.c1;exact Rg.aG rfl (by go_simp)
 ·intro _ zZ w_ hB hr
  have e6:zZ.tmps[6]?=some (.pointer (some ⟨gz,0,none⟩)):=hr 6 (by decide);have k0:=aE hB Z.box.c0;have k1:=aE hB Z.box.c1;exact Rg.aG rfl (by go_simp)
 ·intro _ zZ w_ hB hr
  have e6:zZ.tmps[6]?=some (.pointer (some ⟨gz,0,none⟩)):=hr 6 (by decide);have k0:=aE hB Z.box.c0;have k1:=aE hB Z.box.c1;exact Rg.aG rfl (by go_simp)
 ·intro _ zZ w_ hB hr
  have e6:zZ.tmps[6]?=some (.pointer (some ⟨gz,0,none⟩)):=hr 6 (by decide);have k0:=aE hB Z.box.c0;have k1:=aE hB Z.box.c1;exact Rg.aG rfl (by go_simp)
 ·intro _ zZ w_ hB hr
  obtain ⟨v42,e42,n42⟩:∃ v,zZ.tmps[42]?=some v∧(Rg.Val.at (aJ (wc.heap.size) (a*a))).ok v w_:=hr 42 (by decide);obtain ⟨s42,a42,l42,c42,NN,rfl,o42⟩:=(Rg.ah n42).view;have e43:=Rg.c_ (hr 43 (by decide));have e44:=Rg.c_ (hr 44 (by decide));have e45:=Rg.c_ (hr 45 (by decide));have e46:=Rg.c_ (hr 46 (by decide));refine Rg.ju rfl (x:=.slice (some ⟨w_.heap.size,0,none⟩) 5 5) (ob:=.cells (List.toArray [.bool s42,.slice a42 l42 c42,.bool s2,.slice az lz cz,.bool s2,.slice az lz cz,.bool s2,.slice az lz cz,.bool s2,.slice az lz cz]) 125) (by first | (go_simp;done) | (go_simp;exact ⟨rfl,rfl⟩) | (go_simp;rfl)) (b9.at (by have:=hB.size;omega) ?_ rfl);exact bi.cons NN.out o42 (bi.cons hs2.out (aF.below oz.out hB) (bi.cons hs2.out (aF.below oz.out hB) (bi.cons hs2.out (aF.below oz.out hB) (bi.cons hs2.out (aF.below oz.out hB) (bi.nil)))))
 ·intro _ zZ w_ hB hr
  obtain ⟨v47,e47,n47⟩:∃ v,zZ.tmps[47]?=some v∧(Rg.Val.at (b9 (wc.heap.size) [a*a,z,z,z,z])).ok v w_:=hr 47 (by decide);obtain ⟨g47,rfl,N5⟩:=Rg.ah n47;have ef:=Rg.ef zZ;refine Rg.ae rfl (by go_simp;exact ⟨rfl,rfl⟩) ?_;refine (R4.out _ _ _ N5).mono ?_;rintro e w5 ⟨yQ,rfl,xg,hb5⟩;exact ⟨_,rfl,aJ.at xg (by have:=hB.size;omega),hb5⟩
 ·intro _ zZ w_ hB hr
  obtain ⟨v16,e16,n16⟩:∃ v,zZ.tmps[16]?=some v∧(Rg.Val.at (aJ (wc.heap.size) (Be))).ok v w_:=hr 16 (by decide);obtain ⟨s16,a16,Cc,c16,BK,rfl,o16⟩:=(Rg.ah n16).view;obtain ⟨v26,e26,n26⟩:∃ v,zZ.tmps[26]?=some v∧(Rg.Val.at (aJ (wc.heap.size) (Bf))).ok v w_:=hr 26 (by decide);obtain ⟨s26,a26,l26,c26,Ge,rfl,Nx⟩:=(Rg.ah n26).view;obtain ⟨v36,e36,n36⟩:∃ v,zZ.tmps[36]?=some v∧(Rg.Val.at (aJ (wc.heap.size) (Bg))).ok v w_:=hr 36 (by decide);obtain ⟨s36,a36,l36,c36,NJ,rfl,o36⟩:=(Rg.ah n36).view;obtain ⟨v48,e48,n48⟩:∃ v,zZ.tmps[48]?=some v∧(Rg.Val.at (aJ (wc.heap.size) (Gq))).ok v w_:=hr 48 (by decide);obtain ⟨JA,a48,Iu,IY,Gh,rfl,N6⟩:=(Rg.ah n48).view;refine Rg.ju rfl (x:=.slice (some ⟨w_.heap.size,0,none⟩) 4 4) (ob:=.cells (List.toArray [.bool s16,.slice a16 Cc c16,.bool s26,.slice a26 l26 c26,.bool s36,.slice a36 l36 c36,.bool JA,.slice a48 Iu IY]) 125) (by first | (go_simp;done) | (go_simp;exact ⟨rfl,rfl⟩) | (go_simp;rfl)) (b9.at (by have:=hB.size;omega) ?_ rfl);exact bi.cons BK.out o16 (bi.cons Ge.out Nx (bi.cons NJ.out o36 (bi.cons Gh.out N6 (bi.nil))))
 ·intro _ zZ w_ hB hr
  obtain ⟨v49,e49,n49⟩:∃ v,zZ.tmps[49]?=some v∧(Rg.Val.at (b9 (wc.heap.size) [Be,Bf,Bg,Gq])).ok v w_:=hr 49 (by decide);obtain ⟨g49,rfl,o49⟩:=Rg.ah n49;have ef:=Rg.ef zZ;refine Rg.ae rfl (by go_simp;exact ⟨rfl,rfl⟩) ?_;refine (R5.out _ _ _ o49).mono ?_;rintro e w5 ⟨yQ,rfl,xg,hb5⟩;exact ⟨_,rfl,aJ.at xg (by have:=hB.size;omega),hb5⟩
 intro vals wz hB hv hne;have n50:(Rg.Val.at (aJ (wc.heap.size) (F))).ok (vals 39) wz:=hv 39 (by decide);simp only [Rg.ay,Rg.fill,Act.put,Nat.reduceAdd];clear hv;obtain ⟨OL,a50,Np,MV,NP,JR,o50⟩:=(Rg.ah n50).view;simp only [JR];clear JR;have R2:=R.keep hB;have ⟨c0,c1,f0,f1,_⟩:=R2.box;have hr1:=aF.base (aF.bO o50 R2 (by decide) (.bool OL) (.slice a50 Np MV)) (Nat.le_trans (Nat.le_add_right _ 3) DM);have hr2:Below w.heap.size w ((wz.setCell ⟨w.heap.size+1+1,0,none⟩ (.bool OL)).setCell ⟨w.heap.size+1+1,1,none⟩ (.slice a50 Np MV)):=xN (xN (d_ hw hB) (by simp <;> omega) _) (by simp <;> omega) _;unfold Rg.aX Rg.aX Oper.wp
 go_simp
 go_wp2;exact bodyPost_ret (v:=.agg #[.bool OL,.slice a50 Np MV]) (by simp [results,Tryz.results180,go_sem, *]) rfl (⟨_,by rw [NP.out],hr1,hr2⟩)
theorem dm (a b x z:Int) (vx vz:Value) (w:World) (bx bz:Nat) (hox:aj w bx vx x) (yW:aj w bz vz z) (hx:Wh.sz x 1000) (hz:Wh.sz z 1000) (ha1:-1000≤a) (ha2:a≤1000) (hb1:-10000≤b) (hb2:b≤10000) :
  Calls Tryz.prog 154 #[.agg #[.int .i64 a,.int .i64 b],.agg #[.bool (decide (x<0)),vx,.bool (decide (z<0)),vz]] w fun e w'=>∃ sl,e=.returned (.agg #[.bool (decide (Wh.aw a b x z<0)),sl])∧aj w' w.heap.size sl (Wh.aw a b x z)∧Below w.heap.size w w':=by
 obtain ⟨ax,cx,rfl,-,-⟩:=aF.view hox;obtain ⟨az,cz,rfl,-,-⟩:=aF.view yW;have hq1:Wh.sz a 1000:=Wh.aQ (Wh.bc (by omega) (by omega)) (by omega);have hq2:Wh.sz b 1000:=Wh.aQ (Wh.bc (by omega) (by omega)) (by omega);have hq3:Wh.sz 4 1000:=Wh.aQ (Wh.bc (by omega) (by omega)) (by omega)
 have mm:∀ (l:List Int),(∀ y ∈ l,Wh.sz y 1000)→l.length≤5→∀ k,Wh.small ((l.take k).foldl (·*·) 1):=fun l h hl k=>Wh.cL (Wh.aQ (Wh.iB h k) (show 1+l.length*1000≤8000 by omega)) (by omega)
 have mp:∀ (l:List Int),(∀ y ∈ l,Wh.sz y 1000)→l.length≤4→Wh.sz (l.foldl (·*·) 1) 4001:=fun l h hl=>by have:=Wh.iB h l.length;rw [List.take_length] at this;exact Wh.aQ this (by omega)
 have m0:∀ (l:List Int),(∀ y ∈ l,Wh.sz y 1000)→∀ y ∈ l,Wh.small y:=fun l h y hy=>Wh.cL (h y hy) (by omega)
 have m1:∀ y ∈ ([x,x,x]:List Int),Wh.sz y 1000:=by intro y h;simp only [List.mem_cons,List.not_mem_nil,or_false] at h;rcases h with h | h | h <;> (subst h;assumption)
 have R1:=fun g cap W (h:bq W g [x,x,x])=>bf [x,x,x] g cap W h (by simp) (m0 _ m1) (mm _ m1 (by simp))
 have p1:=mp _ m1 (by simp)
 have m2:∀ y ∈ ([a,x,z,z]:List Int),Wh.sz y 1000:=by intro y h;simp only [List.mem_cons,List.not_mem_nil,or_false] at h;rcases h with h | h | h | h <;> (subst h;assumption)
 have R2:=fun g cap W (h:bq W g [a,x,z,z])=>bf [a,x,z,z] g cap W h (by simp) (m0 _ m2) (mm _ m2 (by simp))
 have p2:=mp _ m2 (by simp)
 have m3:∀ y ∈ ([b,z,z,z]:List Int),Wh.sz y 1000:=by intro y h;simp only [List.mem_cons,List.not_mem_nil,or_false] at h;rcases h with h | h | h | h <;> (subst h;assumption)
 have R3:=fun g cap W (h:bq W g [b,z,z,z])=>bf [b,z,z,z] g cap W h (by simp) (m0 _ m3) (mm _ m3 (by simp))
 have p3:=mp _ m3 (by simp);have hT:=Wh.pv a b x z;generalize hp1:([x,x,x]:List Int).foldl (·*·) 1=Be at *;generalize hp2:([a,x,z,z]:List Int).foldl (·*·) 1=Bf at *;generalize hp3:([b,z,z,z]:List Int).foldl (·*·) 1=Bg at *
 have ms:∀ y ∈ [Be,Bf,Bg],Wh.sz y 4001:=by intro y h;simp only [List.mem_cons,List.not_mem_nil,or_false] at h;rcases h with h | h | h <;> (subst h;assumption)
 have R5:=fun g cap W (h:bq W g [Be,Bf,Bg])=>ie [Be,Bf,Bg] g cap W h (by simp) (fun y hy=>Wh.cL (ms y hy) (by omega)) (fun k=>Wh.cL (Wh.aQ (Wh.li ms (by omega) k) (show 4001+3≤7000 by omega)) (by omega))
 have M5:=Wh.li ms (by omega) 3;rw [show ([Be,Bf,Bg]:List Int).take 3=[Be,Bf,Bg] from rfl] at M5;generalize Bw:([Be,Bf,Bg]:List Int).foldl (·+·) 0=Gs at *;have M6:Wh.sz Gs 4004:=M5
 have R6:=fun g cap W (h:bq W g [4,z,Gs])=>bf [4,z,Gs] g cap W h (by simp) (by
  intro y h;simp only [List.mem_cons,List.not_mem_nil,or_false] at h;rcases h with h | h | h
  ·subst h;exact Wh.cL hq3 (by omega)
  ·subst h;exact Wh.cL hz (by omega)
  ·subst h;exact Wh.cL M6 (by omega)) (fun k=>by
  have y0:=Wh.sy;have y1:=Wh.ar y0 hq3;have y2:=Wh.ar y1 hz;have y3:=Wh.ar y2 M6
  match k with
  | 0=>exact Wh.cL y0 (by omega)
  | 1=>exact Wh.cL y1 (by omega)
  | 2=>exact Wh.cL y2 (by omega)
  | k+3=>rw [List.take_of_length_le (by simp)];exact Wh.cL y3 (by omega))
 rw [hT] at R6
 have N1:=fun W=>bj a W (by omega) (by omega)
 have N2:=fun W=>bj b W (by omega) (by omega)
 have N3:=fun W=>bj 4 W (by omega) (by omega)
 clear m1 m2 m3 p1 p2 p3 hp1 hp2 hp3 ms mm mp m0 hT Bw M5 M6;replace R1:=xL R1;replace R2:=xL R2;replace R3:=xL R3;replace R5:=xL R5;replace R6:=xL R6;replace N1:=xL N1;replace N2:=xL N2;replace N3:=xL N3;generalize hF:Wh.aw a b x z=F at *;clear hF;generalize hs1:decide (x<0)=s1 at *;replace hs1:=xL hs1.symm;generalize hs2:decide (z<0)=s2 at *;replace hs2:=xL hs2.symm;replace hox:=xL (show aF _ _ _ _ from hox);replace yW:=xL (show aF _ _ _ _ from yW);generalize (Wh.a_ z.natAbs).length=lz,(Wh.a_ x.natAbs).length=lx at *;have b1:=((aH.new w #[.int .i64 a,.int .i64 b] 25).alloc (.cells #[.bool s1,.slice ax lx cx,.bool s2,.slice az lz cz] 127)).alloc (.cells #[.bool false,.slice none 0 0] 125);have b2:=(aH.new (w.alloc (.cells #[.int .i64 a,.int .i64 b] 25)) #[.bool s1,.slice ax lx cx,.bool s2,.slice az lz cz] 127).alloc (.cells #[.bool false,.slice none 0 0] 125);rw [xM] at b2;have b3:=aH.new ((w.alloc (.cells #[.int .i64 a,.int .i64 b] 25)).alloc (.cells #[.bool s1,.slice ax lx cx,.bool s2,.slice az lz cz] 127)) #[.bool false,.slice none 0 0] 125;rw [cm] at b3;have hB:=(((xO w.heap.size w).alloc (xP _) (.cells #[.int .i64 a,.int .i64 b] 25)).alloc (by rw [xM];omega) (.cells #[.bool s1,.slice ax lx cx,.bool s2,.slice az lz cz] 127)).alloc (by rw [cm];omega) (.cells #[.bool false,.slice none 0 0] 125)
 have hz3:(((w.alloc (.cells #[.int .i64 a,.int .i64 b] 25)).alloc (.cells #[.bool s1,.slice ax lx cx,.bool s2,.slice az lz cz] 127)).alloc (.cells #[.bool false,.slice none 0 0] 125)).heap.size=w.heap.size+3:=by rw [xM,cm]
 have A_:=xL (aF.alloc (aF.alloc (aF.alloc hox.out (.cells #[.int .i64 a,.int .i64 b] 25)) (.cells #[.bool s1,.slice ax lx cx,.bool s2,.slice az lz cz] 127)) (.cells #[.bool false,.slice none 0 0] 125));have BA:=xL (aF.alloc (aF.alloc (aF.alloc yW.out (.cells #[.int .i64 a,.int .i64 b] 25)) (.cells #[.bool s1,.slice ax lx cx,.bool s2,.slice az lz cz] 127)) (.cells #[.bool false,.slice none 0 0] 125));clear hox yW;generalize hw3:((w.alloc (.cells #[.int .i64 a,.int .i64 b] 25)).alloc (.cells #[.bool s1,.slice ax lx cx,.bool s2,.slice az lz cz] 127)).alloc (.cells #[.bool false,.slice none 0 0] 125)=w3 at *;have e0:=b2.aN.c0;have e1:=b2.aN.c1;have e2:=b2.aN.c2;have e3:=b2.aN.c3;go_enter Tryz.func154,Tryz.ntmps154
 go_wp2
 go_upto_region 1 with fail
 go_cut [5,6] (fun p q wx=>∃ gx gz,w.heap.size+3≤gx∧w.heap.size+3≤gz∧p=.pointer (some ⟨gx,0,none⟩)∧q=.pointer (some ⟨gz,0,none⟩)∧aH wx gx 125 #[.bool s1,.slice ax lx cx]∧aH wx gz 125 #[.bool s2,.slice az lz cz]∧Below (w.heap.size+3) w3 wx)
 case first=>
  go_region
  all_goals
   go_wp2_with fail
   go_meet
   first
   | exact (nM _ _ hz3 _ _ _ _ _).1
   | exact (nM _ _ hz3 _ _ _ _ _).2
 case rest=>
 obtain ⟨gx,gz,hgx,hgz,rfl,rfl,X,Z,hbx⟩:=hcut;rw [←hz3] at hbx;have ox:=xL (aF.below A_.out hbx);have oz:=xL (aF.below BA.out hbx);have C:=b1.keep hbx;have R:=b3.keep hbx;have hw:=d_ hB hbx
 have DM:w.heap.size+3≤wc.heap.size:=by have:=hbx.size;omega
 clear hz3;clear b1 b2 b3 e0 e1 e2 e3 hB hbx A_ BA
 go_upto_region 2 with fail
 refine Rg.bS 24 [.is (.agg #[.bool s1,.slice ax lx cx]),.is (.agg #[.bool s1,.slice ax lx cx]),.is (.agg #[.bool s1,.slice ax lx cx]),.at (b9 (wc.heap.size) [x,x,x]),.at (aJ (wc.heap.size) (Be)),.is (.pointer (some ⟨w.heap.size,0,none⟩)),.is (.int .i64 a),.at (aJ (wc.heap.size) (a)),.is (.agg #[.bool s1,.slice ax lx cx]),.is (.agg #[.bool s2,.slice az lz cz]),.is (.agg #[.bool s2,.slice az lz cz]),.at (b9 (wc.heap.size) [a,x,z,z]),.at (aJ (wc.heap.size) (Bf)),.is (.pointer (some ⟨w.heap.size,1,none⟩)),.is (.int .i64 b),.at (aJ (wc.heap.size) (b)),.is (.agg #[.bool s2,.slice az lz cz]),.is (.agg #[.bool s2,.slice az lz cz]),.is (.agg #[.bool s2,.slice az lz cz]),.at (b9 (wc.heap.size) [b,z,z,z]),.at (aJ (wc.heap.size) (Bg)),.at (b9 (wc.heap.size) [Be,Bf,Bg]),.at (aJ (wc.heap.size) (Gs)),.new (wc.heap.size) 125 #[.bool false,.slice none 0 0]] (by kernel_rfl) (by kernel_rfl) (by kernel_rfl) ⟨?_,?_,?_,?_,?_,?_,?_,?_,?_,?_,?_,?_,?_,?_,?_,?_,?_,?_,?_,?_,?_,?_,?_,?_,fun h_=>absurd h_ (by decide),trivial⟩ ?_
 ·intro _ zZ w_ hB hr
  have e5:zZ.tmps[5]?=some (.pointer (some ⟨gx,0,none⟩)):=hr 5 (by decide);have k0:=aE hB X.box.c0;have k1:=aE hB X.box.c1;exact Rg.aG rfl (by go_simp)
 ·intro _ zZ w_ hB hr
  have e5:zZ.tmps[5]?=some (.pointer (some ⟨gx,0,none⟩)):=hr 5 (by decide);have k0:=aE hB X.box.c0;have k1:=aE hB X.box.c1;exact Rg.aG rfl (by go_simp)
 ·intro _ zZ w_ hB hr
  have e5:zZ.tmps[5]?=some (.pointer (some ⟨gx,0,none⟩)):=hr 5 (by decide);have k0:=aE hB X.box.c0;have k1:=aE hB X.box.c1;exact Rg.aG rfl (by go_simp)
 ·intro _ zZ w_ hB hr
  have e12:=Rg.c_ (hr 12 (by decide));have e13:=Rg.c_ (hr 13 (by decide));have e14:=Rg.c_ (hr 14 (by decide));refine Rg.ju rfl (x:=.slice (some ⟨w_.heap.size,0,none⟩) 3 3) (ob:=.cells (List.toArray [.bool s1,.slice ax lx cx,.bool s1,.slice ax lx cx,.bool s1,.slice ax lx cx]) 125) (by first | (go_simp;done) | (go_simp;exact ⟨rfl,rfl⟩) | (go_simp;rfl)) (b9.at (by have:=hB.size;omega) ?_ rfl);exact bi.cons hs1.out (aF.below ox.out hB) (bi.cons hs1.out (aF.below ox.out hB) (bi.cons hs1.out (aF.below ox.out hB) (bi.nil)))
 ·intro _ zZ w_ hB hr
  obtain ⟨v15,e15,n15⟩:∃ v,zZ.tmps[15]?=some v∧(Rg.Val.at (b9 (wc.heap.size) [x,x,x])).ok v w_:=hr 15 (by decide);obtain ⟨g15,rfl,DC⟩:=Rg.ah n15;have ef:=Rg.ef zZ;refine Rg.ae rfl (by go_simp;exact ⟨rfl,rfl⟩) ?_;refine (R1.out _ _ _ DC).mono ?_;rintro e w5 ⟨yQ,rfl,xg,hb5⟩;exact ⟨_,rfl,aJ.at xg (by have:=hB.size;omega),hb5⟩
 ·intro _ zZ w_ hB hr
  have e2:zZ.tmps[2]?=some (.pointer (some ⟨w.heap.size,0,none⟩)):=hr 2 (by decide);exact Rg.aG rfl (by go_simp)
 ·intro _ zZ w_ hB hr
  have e17:=Rg.c_ (hr 17 (by decide));have k0:=aE hB C.box.c0;exact Rg.aG rfl (by go_simp)
 ·intro _ zZ w_ hB hr
  have e18:=Rg.c_ (hr 18 (by decide));have ef:=Rg.ef zZ;refine Rg.ae rfl (by go_simp;exact ⟨rfl,rfl⟩) ?_;refine (N1.out _).mono ?_;rintro e w5 ⟨yQ,rfl,xg,hb5⟩;exact ⟨_,rfl,aJ.at xg (by have:=hB.size;omega),hb5⟩
 ·intro _ zZ w_ hB hr
  have e5:zZ.tmps[5]?=some (.pointer (some ⟨gx,0,none⟩)):=hr 5 (by decide);have k0:=aE hB X.box.c0;have k1:=aE hB X.box.c1;exact Rg.aG rfl (by go_simp)
 ·intro _ zZ w_ hB hr
  have e6:zZ.tmps[6]?=some (.pointer (some ⟨gz,0,none⟩)):=hr 6 (by decide);have k0:=aE hB Z.box.c0;have k1:=aE hB Z.box.c1;exact Rg.aG rfl (by go_simp)
 ·intro _ zZ w_ hB hr
  have e6:zZ.tmps[6]?=some (.pointer (some ⟨gz,0,none⟩)):=hr 6 (by decide);have k0:=aE hB Z.box.c0;have k1:=aE hB Z.box.c1;exact Rg.aG rfl (by go_simp)
 ·intro _ zZ w_ hB hr
  obtain ⟨v19,e19,n19⟩:∃ v,zZ.tmps[19]?=some v∧(Rg.Val.at (aJ (wc.heap.size) (a))).ok v w_:=hr 19 (by decide);obtain ⟨DP,Dg,DB,c19,BL,rfl,Hi⟩:=(Rg.ah n19).view;have e20:=Rg.c_ (hr 20 (by decide));have e21:=Rg.c_ (hr 21 (by decide));have e22:=Rg.c_ (hr 22 (by decide));refine Rg.ju rfl (x:=.slice (some ⟨w_.heap.size,0,none⟩) 4 4) (ob:=.cells (List.toArray [.bool DP,.slice Dg DB c19,.bool s1,.slice ax lx cx,.bool s2,.slice az lz cz,.bool s2,.slice az lz cz]) 125) (by first | (go_simp;done) | (go_simp;exact ⟨rfl,rfl⟩) | (go_simp;rfl)) (b9.at (by have:=hB.size;omega) ?_ rfl);exact bi.cons BL.out Hi (bi.cons hs1.out (aF.below ox.out hB) (bi.cons hs2.out (aF.below oz.out hB) (bi.cons hs2.out (aF.below oz.out hB) (bi.nil))))
 ·intro _ zZ w_ hB hr
  obtain ⟨v23,e23,n23⟩:∃ v,zZ.tmps[23]?=some v∧(Rg.Val.at (b9 (wc.heap.size) [a,x,z,z])).ok v w_:=hr 23 (by decide);obtain ⟨g23,rfl,Gm⟩:=Rg.ah n23;have ef:=Rg.ef zZ;refine Rg.ae rfl (by go_simp;exact ⟨rfl,rfl⟩) ?_;refine (R2.out _ _ _ Gm).mono ?_;rintro e w5 ⟨yQ,rfl,xg,hb5⟩;exact ⟨_,rfl,aJ.at xg (by have:=hB.size;omega),hb5⟩
 ·intro _ zZ w_ hB hr
  have e2:zZ.tmps[2]?=some (.pointer (some ⟨w.heap.size,0,none⟩)):=hr 2 (by decide);exact Rg.aG rfl (by go_simp)
 ·intro _ zZ w_ hB hr
  have e25:=Rg.c_ (hr 25 (by decide));have k1:=aE hB C.box.c1;exact Rg.aG rfl (by go_simp)
 ·intro _ zZ w_ hB hr
  have e26:=Rg.c_ (hr 26 (by decide));have ef:=Rg.ef zZ;refine Rg.ae rfl (by go_simp;exact ⟨rfl,rfl⟩) ?_;refine (N2.out _).mono ?_;rintro e w5 ⟨yQ,rfl,xg,hb5⟩;exact ⟨_,rfl,aJ.at xg (by have:=hB.size;omega),hb5⟩
 ·intro _ zZ w_ hB hr
  have e6:zZ.tmps[6]?=some (.pointer (some ⟨gz,0,none⟩)):=hr 6 (by decide);have k0:=aE hB Z.box.c0;have k1:=aE hB Z.box.c1;exact Rg.aG rfl (by go_simp)
 ·intro _ zZ w_ hB hr
  have e6:zZ.tmps[6]?=some (.pointer (some ⟨gz,0,none⟩)):=hr 6 (by decide);have k0:=aE hB Z.box.c0;have k1:=aE hB Z.box.c1;exact Rg.aG rfl (by go_simp)
 ·intro _ zZ w_ hB hr
  have e6:zZ.tmps[6]?=some (.pointer (some ⟨gz,0,none⟩)):=hr 6 (by decide);have k0:=aE hB Z.box.c0;have k1:=aE hB Z.box.c1;exact Rg.aG rfl (by go_simp)
 ·intro _ zZ w_ hB hr
  obtain ⟨v27,e27,n27⟩:∃ v,zZ.tmps[27]?=some v∧(Rg.Val.at (aJ (wc.heap.size) (b))).ok v w_:=hr 27 (by decide);obtain ⟨G_,a27,Gk,F9,Gf,rfl,Jy⟩:=(Rg.ah n27).view;have e28:=Rg.c_ (hr 28 (by decide));have e29:=Rg.c_ (hr 29 (by decide));have e30:=Rg.c_ (hr 30 (by decide));refine Rg.ju rfl (x:=.slice (some ⟨w_.heap.size,0,none⟩) 4 4) (ob:=.cells (List.toArray [.bool G_,.slice a27 Gk F9,.bool s2,.slice az lz cz,.bool s2,.slice az lz cz,.bool s2,.slice az lz cz]) 125) (by first | (go_simp;done) | (go_simp;exact ⟨rfl,rfl⟩) | (go_simp;rfl)) (b9.at (by have:=hB.size;omega) ?_ rfl);exact bi.cons Gf.out Jy (bi.cons hs2.out (aF.below oz.out hB) (bi.cons hs2.out (aF.below oz.out hB) (bi.cons hs2.out (aF.below oz.out hB) (bi.nil))))
 ·intro _ zZ w_ hB hr
  obtain ⟨v31,e31,n31⟩:∃ v,zZ.tmps[31]?=some v∧(Rg.Val.at (b9 (wc.heap.size) [b,z,z,z])).ok v w_:=hr 31 (by decide);obtain ⟨g31,rfl,Ny⟩:=Rg.ah n31;have ef:=Rg.ef zZ;refine Rg.ae rfl (by go_simp;exact ⟨rfl,rfl⟩) ?_;refine (R3.out _ _ _ Ny).mono ?_;rintro e w5 ⟨yQ,rfl,xg,hb5⟩;exact ⟨_,rfl,aJ.at xg (by have:=hB.size;omega),hb5⟩
 ·intro _ zZ w_ hB hr
  obtain ⟨v16,e16,n16⟩:∃ v,zZ.tmps[16]?=some v∧(Rg.Val.at (aJ (wc.heap.size) (Be))).ok v w_:=hr 16 (by decide);obtain ⟨s16,a16,Cc,c16,BK,rfl,o16⟩:=(Rg.ah n16).view;obtain ⟨v24,e24,n24⟩:∃ v,zZ.tmps[24]?=some v∧(Rg.Val.at (aJ (wc.heap.size) (Bf))).ok v w_:=hr 24 (by decide);obtain ⟨s24,a24,EX,c24,DK,rfl,Hj⟩:=(Rg.ah n24).view;obtain ⟨v32,e32,n32⟩:∃ v,zZ.tmps[32]?=some v∧(Rg.Val.at (aJ (wc.heap.size) (Bg))).ok v w_:=hr 32 (by decide);obtain ⟨s32,a32,l32,c32,Gg,rfl,o32⟩:=(Rg.ah n32).view;refine Rg.ju rfl (x:=.slice (some ⟨w_.heap.size,0,none⟩) 3 3) (ob:=.cells (List.toArray [.bool s16,.slice a16 Cc c16,.bool s24,.slice a24 EX c24,.bool s32,.slice a32 l32 c32]) 125) (by first | (go_simp;done) | (go_simp;exact ⟨rfl,rfl⟩) | (go_simp;rfl)) (b9.at (by have:=hB.size;omega) ?_ rfl);exact bi.cons BK.out o16 (bi.cons DK.out Hj (bi.cons Gg.out o32 (bi.nil)))
 ·intro _ zZ w_ hB hr
  obtain ⟨v33,e33,n33⟩:∃ v,zZ.tmps[33]?=some v∧(Rg.Val.at (b9 (wc.heap.size) [Be,Bf,Bg])).ok v w_:=hr 33 (by decide);obtain ⟨g33,rfl,Gn⟩:=Rg.ah n33;have ef:=Rg.ef zZ;refine Rg.ae rfl (by go_simp;exact ⟨rfl,rfl⟩) ?_;refine (R5.out _ _ _ Gn).mono ?_;rintro e w5 ⟨yQ,rfl,xg,hb5⟩;exact ⟨_,rfl,aJ.at xg (by have:=hB.size;omega),hb5⟩
 ·intro _ zZ w_ hB hr
  exact ⟨by have:=hB.size;omega,rfl,by first | (go_simp;done) | (go_simp;rfl)⟩
 intro vals wz hB hv hne;have n7:(Rg.Val.new (wc.heap.size) 125 #[.bool false,.slice none 0 0]).ok (vals 23) wz:=hv 23 (by decide);have n34:(Rg.Val.at (aJ (wc.heap.size) (Gs))).ok (vals 22) wz:=hv 22 (by decide);simp only [Rg.ay,Rg.fill,Act.put,Nat.reduceAdd];clear hv;obtain ⟨g7,Fa,JO,o7⟩:=n7;replace o7:aH wz g7 125 #[.bool false,.slice none 0 0]:=o7;obtain ⟨Hk,a34,Hh,c34,NH,EL,o34⟩:=(Rg.ah n34).view;simp only [JO,EL];clear JO EL;have hB2:Below wc.heap.size wc ((wz.setCell ⟨g7,0,none⟩ (.bool Hk)).setCell ⟨g7,1,none⟩ (.slice a34 Hh c34)):=xN (xN hB Fa _) Fa _;have D:=aH.set2 o7 (.bool Hk) (.slice a34 Hh c34);have oD:=xL (aF.bO o34 o7 (by decide) (.bool Hk) (.slice a34 Hh c34));have ⟨c0,c1,f0,f1,_⟩:=o7.box;unfold Rg.aX Rg.aX Oper.wp
 go_simp
 clear c0 c1 f0 f1 o7 o34;generalize ((wz.setCell ⟨g7,0,none⟩ (.bool Hk)).setCell ⟨g7,1,none⟩ (.slice a34 Hh c34))=wd at *;replace Z:=Z.keep hB2;replace R:=R.keep hB2;replace oz:=xL (aF.below oz.out hB2);replace hw:=d_ hw hB2;have DN:wc.heap.size≤wd.heap.size:=hB2.size
 go_upto_region 3 with fail
 clear hB2;refine Rg.bS 5 [.at (aJ (wd.heap.size) (4)),.is (.agg #[.bool s2,.slice az lz cz]),.is (.agg #[.bool Hk,.slice a34 Hh c34]),.at (b9 (wd.heap.size) [4,z,Gs]),.at (aJ (wd.heap.size) (F))] (by kernel_rfl) (by kernel_rfl) (by kernel_rfl) ⟨?_,?_,?_,?_,?_,fun h_=>absurd h_ (by decide),trivial⟩ ?_
 ·intro _ zZ w_ hB hr
  have ec:=Rg.ec zZ;have ef:=Rg.ef zZ;refine Rg.ae rfl (by go_simp;exact ⟨rfl,rfl⟩) ?_;refine (N3.out _).mono ?_;rintro e w5 ⟨yQ,rfl,xg,hb5⟩;exact ⟨_,rfl,aJ.at xg (by have:=hB.size;omega),hb5⟩
 ·intro _ zZ w_ hB hr
  have e6:zZ.tmps[6]?=some (.pointer (some ⟨gz,0,none⟩)):=hr 6 (by decide);have k0:=aE hB Z.box.c0;have k1:=aE hB Z.box.c1;exact Rg.aG rfl (by go_simp)
 ·intro _ zZ w_ hB hr
  have e7:zZ.tmps[7]?=some (.pointer (some ⟨g7,0,none⟩)):=hr 7 (by decide);have k0:=aE hB D.box.c0;have k1:=aE hB D.box.c1;exact Rg.aG rfl (by go_simp)
 ·intro _ zZ w_ hB hr
  obtain ⟨v35,e35,n35⟩:∃ v,zZ.tmps[35]?=some v∧(Rg.Val.at (aJ (wd.heap.size) (4))).ok v w_:=hr 35 (by decide);obtain ⟨s35,a35,l35,c35,NI,rfl,Nz⟩:=(Rg.ah n35).view;have e36:=Rg.c_ (hr 36 (by decide));have e37:=Rg.c_ (hr 37 (by decide));refine Rg.ju rfl (x:=.slice (some ⟨w_.heap.size,0,none⟩) 3 3) (ob:=.cells (List.toArray [.bool s35,.slice a35 l35 c35,.bool s2,.slice az lz cz,.bool Hk,.slice a34 Hh c34]) 125) (by first | (go_simp;done) | (go_simp;exact ⟨rfl,rfl⟩) | (go_simp;rfl)) (b9.at (by have:=hB.size;omega) ?_ rfl);exact bi.cons NI.out Nz (bi.cons hs2.out (aF.below oz.out hB) (bi.cons NH.out (aF.below oD.out hB) (bi.nil)))
 ·intro _ zZ w_ hB hr
  obtain ⟨v38,e38,n38⟩:∃ v,zZ.tmps[38]?=some v∧(Rg.Val.at (b9 (wd.heap.size) [4,z,Gs])).ok v w_:=hr 38 (by decide);obtain ⟨g38,rfl,N4⟩:=Rg.ah n38;have ef:=Rg.ef zZ;refine Rg.ae rfl (by go_simp;exact ⟨rfl,rfl⟩) ?_;refine (R6.out _ _ _ N4).mono ?_;rintro e w5 ⟨yQ,rfl,xg,hb5⟩;exact ⟨_,rfl,aJ.at xg (by have:=hB.size;omega),hb5⟩
 intro vals wy hB4 hv hne;have n39:(Rg.Val.at (aJ (wd.heap.size) (F))).ok (vals 4) wy:=hv 4 (by decide);simp only [Rg.ay,Rg.fill,Act.put,Nat.reduceAdd];clear hv;obtain ⟨OK,a39,Nn,MU,NM,DX,o39⟩:=(Rg.ah n39).view;simp only [DX];clear DX;have R2:=R.keep hB4;have ⟨c0,c1,f0,f1,_⟩:=R2.box;have hr1:=aF.base (aF.bO o39 R2 (by decide) (.bool OK) (.slice a39 Nn MU)) (show w.heap.size≤wd.heap.size from hw.size);have hr2:Below w.heap.size w ((wy.setCell ⟨w.heap.size+1+1,0,none⟩ (.bool OK)).setCell ⟨w.heap.size+1+1,1,none⟩ (.slice a39 Nn MU)):=xN (xN (d_ hw hB4) (by simp <;> omega) _) (by simp <;> omega) _;unfold Rg.aX Rg.aX Oper.wp
 go_simp
 go_wp2;exact bodyPost_ret (v:=.agg #[.bool OK,.slice a39 Nn MU]) (by simp [results,Tryz.results154,go_sem, *]) rfl (⟨_,by rw [NM.out],hr1,hr2⟩)
theorem jt (a b x z:Int) (vx vz:Value) (w:World) (bx bz:Nat) (hox:aj w bx vx x) (yW:aj w bz vz z) (hx:Wh.sz x 1000) (hz:Wh.sz z 1000) (ha1:-1000≤a) (ha2:a≤1000) (hb1:-10000≤b) (hb2:b≤10000) :
  Calls Tryz.prog 157 #[.agg #[.int .i64 a,.int .i64 b],.agg #[.bool (decide (x<0)),vx,.bool (decide (z<0)),vz]] w fun e w'=>∃ sl,e=.returned (.agg #[.bool (decide (Wh.aw a b x z<0)),sl])∧aj w' w.heap.size sl (Wh.aw a b x z)∧Below w.heap.size w w':=by
 obtain ⟨ax,cx,rfl,-,-⟩:=aF.view hox;obtain ⟨az,cz,rfl,-,-⟩:=aF.view yW;have m1:=Wh.ar hx hx;have m0:=Wh.ar hz hz;have m2:=Wh.ar m1 hx;have m3:=Wh.ar hx m0;have m4:=Wh.ar m3 (Wh.bc (n:=a) (by omega) (by omega));have m5:=Wh.fg (Wh.aQ m2 (show 1000+1000+1000≤4000 by omega)) (Wh.aQ m4 (show _≤4000 by omega));have m6:=Wh.ar hz m0;have m7:=Wh.ar m6 (Wh.bc (n:=b) (by omega) (by omega));have m8:=Wh.fg (Wh.aQ m5 (show 4000+1≤4100 by omega)) (Wh.aQ m7 (show _≤4100 by omega));have m9:=Wh.ar hz m8
 have P0:=fun v W k (h:aF W k v (Wh.a_ (z).natAbs))=>db (z) v W k h (Wh.aY.2 (Wh.aQ hz (by omega)))
 have P1:=fun v W k (h:aF W k v (Wh.a_ (x).natAbs))=>db (x) v W k h (Wh.aY.2 (Wh.aQ hx (by omega)))
 have P2:=fun v v' W k k' (h:aF W k v (Wh.a_ (x*x).natAbs)) (h':aF W k' v' (Wh.a_ (x).natAbs))=>dt (x*x) (x) v v' W k k' h h' (Wh.aY.2 (Wh.aQ m1 (by omega))) (Wh.aY.2 (Wh.aQ hx (by omega)))
 have P3:=fun v v' W k k' (h:aF W k v (Wh.a_ (x).natAbs)) (h':aF W k' v' (Wh.a_ (z*z).natAbs))=>dt (x) (z*z) v v' W k k' h h' (Wh.aY.2 (Wh.aQ hx (by omega))) (Wh.aY.2 (Wh.aQ m0 (by omega)))
 have P4:=fun v W k (h:aF W k v (Wh.a_ (x*(z*z)).natAbs))=>dz (x*(z*z)) (a) v W k h (Wh.aY.2 (Wh.aQ m3 (by omega))) (by omega) (by omega)
 have P5:=fun v v' W k k' (h:aF W k v (Wh.a_ (x*x*x).natAbs)) (h':aF W k' v' (Wh.a_ (x*(z*z)*a).natAbs))=>iv (x*x*x) (x*(z*z)*a) v v' W k k' h h' (Wh.aY.2 (Wh.aQ m2 (by omega))) (Wh.aY.2 (Wh.aQ m4 (by omega)))
 have P6:=fun v v' W k k' (h:aF W k v (Wh.a_ (z).natAbs)) (h':aF W k' v' (Wh.a_ (z*z).natAbs))=>dt (z) (z*z) v v' W k k' h h' (Wh.aY.2 (Wh.aQ hz (by omega))) (Wh.aY.2 (Wh.aQ m0 (by omega)))
 have P7:=fun v W k (h:aF W k v (Wh.a_ (z*(z*z)).natAbs))=>dz (z*(z*z)) (b) v W k h (Wh.aY.2 (Wh.aQ m6 (by omega))) (by omega) (by omega)
 have P8:=fun v v' W k k' (h:aF W k v (Wh.a_ (x*x*x+x*(z*z)*a).natAbs)) (h':aF W k' v' (Wh.a_ (z*(z*z)*b).natAbs))=>iv (x*x*x+x*(z*z)*a) (z*(z*z)*b) v v' W k k' h h' (Wh.aY.2 (Wh.aQ m5 (by omega))) (Wh.aY.2 (Wh.aQ m7 (by omega)))
 have P9:=fun v v' W k k' (h:aF W k v (Wh.a_ (z).natAbs)) (h':aF W k' v' (Wh.a_ (x*x*x+x*(z*z)*a+z*(z*z)*b).natAbs))=>dt (z) (x*x*x+x*(z*z)*a+z*(z*z)*b) v v' W k k' h h' (Wh.aY.2 (Wh.aQ hz (by omega))) (Wh.aY.2 (Wh.aQ m8 (by omega)))
 have PA:=fun v W k (h:aF W k v (Wh.a_ (z*(x*x*x+x*(z*z)*a+z*(z*z)*b)).natAbs))=>dz (z*(x*x*x+x*(z*z)*a+z*(z*z)*b)) (4) v W k h (Wh.aY.2 (Wh.aQ m9 (by omega))) (by omega) (by omega)
 have hT:=Wh.mG a b x z;rw [hT] at PA;clear hT m1 m0 m2 m3 m4 m5 m6 m7 m8 m9;generalize Wh.aw a b x z=F at *;generalize GG:x*x*x+x*(z*z)*a+z*(z*z)*b=S2 at *;generalize GF:x*x*x+x*(z*z)*a=S1 at *;generalize Mk:z*(z*z)*b=zb at *;generalize Ml:z*(z*z)=zc at *;generalize Mc:x*(z*z)*a=xa at *;generalize Mf:x*(z*z)=xz at *;generalize Md:x*x*x=xc at *;generalize GH:x*x=xq at *;generalize GI:z*z=zq at *;generalize hGg:z*S2=zs2 at *;clear GG GF Mk Ml Mc Mf Md GH GI hGg;replace P0:=xL P0;replace P1:=xL P1;replace P2:=xL P2;replace P3:=xL P3;replace P4:=xL P4;replace P5:=xL P5;replace P6:=xL P6;replace P7:=xL P7;replace P8:=xL P8;replace P9:=xL P9;replace PA:=xL PA;generalize hs1:decide (x<0)=s1 at *;replace hs1:=xL hs1.symm;generalize hs2:decide (z<0)=s2 at *;replace hs2:=xL hs2.symm;replace hox:=xL (show aF _ _ _ _ from hox);replace yW:=xL (show aF _ _ _ _ from yW);generalize (Wh.a_ z.natAbs).length=lz,(Wh.a_ x.natAbs).length=lx at *;have b1:=((aH.new w #[.int .i64 a,.int .i64 b] 25).alloc (.cells #[.bool s1,.slice ax lx cx,.bool s2,.slice az lz cz] 127)).alloc (.cells #[.bool false,.slice none 0 0] 125);have b2:=(aH.new (w.alloc (.cells #[.int .i64 a,.int .i64 b] 25)) #[.bool s1,.slice ax lx cx,.bool s2,.slice az lz cz] 127).alloc (.cells #[.bool false,.slice none 0 0] 125);rw [xM] at b2;have b3:=aH.new ((w.alloc (.cells #[.int .i64 a,.int .i64 b] 25)).alloc (.cells #[.bool s1,.slice ax lx cx,.bool s2,.slice az lz cz] 127)) #[.bool false,.slice none 0 0] 125;rw [cm] at b3;have hB:=(((xO w.heap.size w).alloc (xP _) (.cells #[.int .i64 a,.int .i64 b] 25)).alloc (by rw [xM];omega) (.cells #[.bool s1,.slice ax lx cx,.bool s2,.slice az lz cz] 127)).alloc (by rw [cm];omega) (.cells #[.bool false,.slice none 0 0] 125)
 have hz3:(((w.alloc (.cells #[.int .i64 a,.int .i64 b] 25)).alloc (.cells #[.bool s1,.slice ax lx cx,.bool s2,.slice az lz cz] 127)).alloc (.cells #[.bool false,.slice none 0 0] 125)).heap.size=w.heap.size+3:=by rw [xM,cm]
 have A_:=xL (aF.alloc (aF.alloc (aF.alloc hox.out (.cells #[.int .i64 a,.int .i64 b] 25)) (.cells #[.bool s1,.slice ax lx cx,.bool s2,.slice az lz cz] 127)) (.cells #[.bool false,.slice none 0 0] 125));have BA:=xL (aF.alloc (aF.alloc (aF.alloc yW.out (.cells #[.int .i64 a,.int .i64 b] 25)) (.cells #[.bool s1,.slice ax lx cx,.bool s2,.slice az lz cz] 127)) (.cells #[.bool false,.slice none 0 0] 125));clear hox yW;generalize hw3:((w.alloc (.cells #[.int .i64 a,.int .i64 b] 25)).alloc (.cells #[.bool s1,.slice ax lx cx,.bool s2,.slice az lz cz] 127)).alloc (.cells #[.bool false,.slice none 0 0] 125)=w3 at *;have e0:=b2.aN.c0;have e1:=b2.aN.c1;have e2:=b2.aN.c2;have e3:=b2.aN.c3;go_enter Tryz.func157,Tryz.ntmps157
 go_wp2
 go_upto_region 1 with fail
 go_cut [5,6] (fun p q wx=>∃ gx gz,w.heap.size+3≤gx∧w.heap.size+3≤gz∧p=.pointer (some ⟨gx,0,none⟩)∧q=.pointer (some ⟨gz,0,none⟩)∧aH wx gx 125 #[.bool s1,.slice ax lx cx]∧aH wx gz 125 #[.bool s2,.slice az lz cz]∧Below (w.heap.size+3) w3 wx)
 case first=>
  go_region
  all_goals
   go_wp2_with fail
   go_meet
   first
   | exact (nM _ _ hz3 _ _ _ _ _).1
   | exact (nM _ _ hz3 _ _ _ _ _).2
 case rest=>
 obtain ⟨gx,gz,hgx,hgz,rfl,rfl,X,Z,hbx⟩:=hcut;rw [←hz3] at hbx;have ox:=xL (aF.below A_.out hbx);have oz:=xL (aF.below BA.out hbx);have C:=b1.keep hbx;have R:=b3.keep hbx;have hw:=d_ hB hbx
 have DM:w.heap.size+3≤wc.heap.size:=by have:=hbx.size;omega
 clear hz3;clear b1 b2 b3 e0 e1 e2 e3 hB hbx A_ BA;have z0:=Z.box.c0;have z1:=Z.box.c1
 go_wp2_with (go_at_call 183;(with_reducible refine (P0.out _ _ _ oz.out).mono ?_);rintro e w4 ⟨v3,rfl,ho3,hb4⟩;obtain ⟨a3,k3,rfl,Jk,hv3⟩:=aF.view ho3;clear Jk hv3 z0 z1)
 have Cb:wc.heap.size≤w4.heap.size:=hb4.size;generalize (Wh.a_ zq.natAbs).length=l3 at *;generalize hs3:decide (zq<0)=s3 at *;replace hs3:=xL hs3.symm;have o3:=xL (aF.alloc (show aF _ _ _ _ from ho3) (.cells #[.bool s3,.slice a3 l3 k3] 125));clear ho3;have T:=aH.new w4 #[.bool s3,.slice a3 l3 k3] 125;have hB2:Below wc.heap.size wc (w4.alloc (.cells #[.bool s3,.slice a3 l3 k3] 125)):=hb4.alloc Cb (.cells #[.bool s3,.slice a3 l3 k3] 125);have Fa:wc.heap.size≤w4.heap.size:=Cb;have Ik:gz<wc.heap.size:=Z.lt
 go_upto_region 3 with fail
 generalize w4.alloc (.cells #[.bool s3,.slice a3 l3 k3] 125)=wd at *;replace X:=X.keep hB2;replace Z:=Z.keep hB2;replace C:=C.keep hB2;replace R:=R.keep hB2;replace ox:=xL (aF.below ox.out hB2);replace oz:=xL (aF.below oz.out hB2);replace hw:=d_ hw hB2;have DN:wc.heap.size≤wd.heap.size:=hB2.size
 replace Ik:gz<wd.heap.size:=by omega
 replace DM:w.heap.size+3≤wd.heap.size:=by omega
 clear hB2 hb4;refine Rg.bS 12 [.is (.agg #[.bool s1,.slice ax lx cx]),.at (aJ (wd.heap.size) (xq)),.is (.agg #[.bool s1,.slice ax lx cx]),.at (aJ (wd.heap.size) (xc)),.is (.agg #[.bool s1,.slice ax lx cx]),.is (.agg #[.bool s3,.slice a3 l3 k3]),.at (aJ (wd.heap.size) (xz)),.is (.pointer (some ⟨w.heap.size,0,none⟩)),.is (.int .i64 a),.at (aJ (wd.heap.size) (xa)),.at (aJ (wd.heap.size) (S1)),.new (wd.heap.size) 125 #[.bool false,.slice none 0 0]] (by kernel_rfl) (by kernel_rfl) (by kernel_rfl) ⟨?_,?_,?_,?_,?_,?_,?_,?_,?_,?_,?_,?_,fun h_=>absurd h_ (by decide),trivial⟩ ?_
 ·intro _ zZ w_ hB hr
  have e5:zZ.tmps[5]?=some (.pointer (some ⟨gx,0,none⟩)):=hr 5 (by decide);have k0:=aE hB X.box.c0;have k1:=aE hB X.box.c1;exact Rg.aG rfl (by go_simp)
 ·intro _ zZ w_ hB hr
  have e15:=Rg.c_ (hr 15 (by decide));have ef:=Rg.ef zZ;refine Rg.ae rfl (by go_simp;exact ⟨rfl,rfl⟩) ?_;refine (P1.out _ _ _ (aF.below ox.out hB)).mono ?_;rintro e w5 ⟨yQ,rfl,xg,hb5⟩;exact ⟨_,rfl,aJ.at xg (by have:=hB.size;omega),hb5⟩
 ·intro _ zZ w_ hB hr
  have e5:zZ.tmps[5]?=some (.pointer (some ⟨gx,0,none⟩)):=hr 5 (by decide);have k0:=aE hB X.box.c0;have k1:=aE hB X.box.c1;exact Rg.aG rfl (by go_simp)
 ·intro _ zZ w_ hB hr
  obtain ⟨v16,e16,n16⟩:∃ v,zZ.tmps[16]?=some v∧(Rg.Val.at (aJ (wd.heap.size) (xq))).ok v w_:=hr 16 (by decide);obtain ⟨s16,a16,Cc,c16,BK,rfl,o16⟩:=(Rg.ah n16).view;have e17:=Rg.c_ (hr 17 (by decide));have ef:=Rg.ef zZ;refine Rg.ae rfl (by go_simp;exact ⟨rfl,rfl⟩) ?_;obtain rfl:=BK.out;refine (P2.out _ _ _ _ _ o16 (aF.below ox.out hB)).mono ?_;rintro e w5 ⟨yQ,rfl,xg,hb5⟩;exact ⟨_,rfl,aJ.at xg (by have:=hB.size;omega),hb5⟩
 ·intro _ zZ w_ hB hr
  have e5:zZ.tmps[5]?=some (.pointer (some ⟨gx,0,none⟩)):=hr 5 (by decide);have k0:=aE hB X.box.c0;have k1:=aE hB X.box.c1;exact Rg.aG rfl (by go_simp)
 ·intro _ zZ w_ hB hr
  have e7:zZ.tmps[7]?=some (.pointer (some ⟨w4.heap.size,0,none⟩)):=hr 7 (by decide);have k0:=aE hB T.box.c0;have k1:=aE hB T.box.c1;exact Rg.aG rfl (by go_simp)
 ·intro _ zZ w_ hB hr
  have e19:=Rg.c_ (hr 19 (by decide));have e20:=Rg.c_ (hr 20 (by decide));have ef:=Rg.ef zZ;refine Rg.ae rfl (by go_simp;exact ⟨rfl,rfl⟩) ?_;refine (P3.out _ _ _ _ _ (aF.below ox.out hB) (aF.below o3.out hB)).mono ?_;rintro e w5 ⟨yQ,rfl,xg,hb5⟩;exact ⟨_,rfl,aJ.at xg (by have:=hB.size;omega),hb5⟩
 ·intro _ zZ w_ hB hr
  have e2:zZ.tmps[2]?=some (.pointer (some ⟨w.heap.size,0,none⟩)):=hr 2 (by decide);exact Rg.aG rfl (by go_simp)
 ·intro _ zZ w_ hB hr
  have e22:=Rg.c_ (hr 22 (by decide));have k0:=aE hB C.box.c0;exact Rg.aG rfl (by go_simp)
 ·intro _ zZ w_ hB hr
  obtain ⟨v21,e21,n21⟩:∃ v,zZ.tmps[21]?=some v∧(Rg.Val.at (aJ (wd.heap.size) (xz))).ok v w_:=hr 21 (by decide);obtain ⟨s21,a21,l21,c21,NB,rfl,o21⟩:=(Rg.ah n21).view;have e23:=Rg.c_ (hr 23 (by decide));have ef:=Rg.ef zZ;refine Rg.ae rfl (by go_simp;exact ⟨rfl,rfl⟩) ?_;obtain rfl:=NB.out;refine (P4.out _ _ _ o21).mono ?_;rintro e w5 ⟨yQ,rfl,xg,hb5⟩;exact ⟨_,rfl,aJ.at xg (by have:=hB.size;omega),hb5⟩
 ·intro _ zZ w_ hB hr
  obtain ⟨v18,e18,n18⟩:∃ v,zZ.tmps[18]?=some v∧(Rg.Val.at (aJ (wd.heap.size) (xc))).ok v w_:=hr 18 (by decide);obtain ⟨s18,a18,l18,c18,Gc,rfl,Nw⟩:=(Rg.ah n18).view;obtain ⟨v24,e24,n24⟩:∃ v,zZ.tmps[24]?=some v∧(Rg.Val.at (aJ (wd.heap.size) (xa))).ok v w_:=hr 24 (by decide);obtain ⟨s24,a24,EX,c24,DK,rfl,Hj⟩:=(Rg.ah n24).view;have ef:=Rg.ef zZ;refine Rg.ae rfl (by go_simp;exact ⟨rfl,rfl⟩) ?_;obtain rfl:=Gc.out;obtain rfl:=DK.out;refine (P5.out _ _ _ _ _ Nw Hj).mono ?_;rintro e w5 ⟨yQ,rfl,xg,hb5⟩;exact ⟨_,rfl,aJ.at xg (by have:=hB.size;omega),hb5⟩
 ·intro _ zZ w_ hB hr
  exact ⟨by have:=hB.size;omega,rfl,by first | (go_simp;done) | (go_simp;rfl)⟩
 intro vals wz hB hv hne;have n8:(Rg.Val.new (wd.heap.size) 125 #[.bool false,.slice none 0 0]).ok (vals 11) wz:=hv 11 (by decide);have n25:(Rg.Val.at (aJ (wd.heap.size) (S1))).ok (vals 10) wz:=hv 10 (by decide);simp only [Rg.ay,Rg.fill,Act.put,Nat.reduceAdd];clear hv;obtain ⟨g8,GP,yR,o8⟩:=n8;replace o8:aH wz g8 125 #[.bool false,.slice none 0 0]:=o8;obtain ⟨I_,a25,It,IX,ND,yH,Jx⟩:=(Rg.ah n25).view;simp only [yR,yH];clear yR yH;have hB2:Below wd.heap.size wd ((wz.setCell ⟨g8,0,none⟩ (.bool I_)).setCell ⟨g8,1,none⟩ (.slice a25 It IX)):=xN (xN hB GP _) GP _;have U:=aH.set2 o8 (.bool I_) (.slice a25 It IX);have oU:=xL (aF.bO Jx o8 (by decide) (.bool I_) (.slice a25 It IX));have ⟨c0,c1,f0,f1,_⟩:=o8.box;unfold Rg.aX Rg.aX Oper.wp
 go_simp
 clear c0 c1 f0 f1 o8 Jx;generalize ((wz.setCell ⟨g8,0,none⟩ (.bool I_)).setCell ⟨g8,1,none⟩ (.slice a25 It IX))=we at *;replace Z:=Z.keep hB2;replace C:=C.keep hB2;replace R:=R.keep hB2;replace T:=T.keep hB2;replace oz:=xL (aF.below oz.out hB2);replace o3:=xL (aF.below o3.out hB2);replace hw:=d_ hw hB2;have DN:wd.heap.size≤we.heap.size:=hB2.size
 go_upto_region 4 with fail
 clear hB2 hB;refine Rg.bS 8 [.is (.agg #[.bool I_,.slice a25 It IX]),.is (.agg #[.bool s2,.slice az lz cz]),.is (.agg #[.bool s3,.slice a3 l3 k3]),.at (aJ (we.heap.size) (zc)),.is (.pointer (some ⟨w.heap.size,1,none⟩)),.is (.int .i64 b),.at (aJ (we.heap.size) (zb)),.at (aJ (we.heap.size) (S2))] (by kernel_rfl) (by kernel_rfl) (by kernel_rfl) ⟨?_,?_,?_,?_,?_,?_,?_,?_,fun h_=>absurd h_ (by decide),trivial⟩ ?_
 ·intro _ zZ w_ hB hr
  have e8:zZ.tmps[8]?=some (.pointer (some ⟨g8,0,none⟩)):=hr 8 (by decide);have k0:=aE hB U.box.c0;have k1:=aE hB U.box.c1;exact Rg.aG rfl (by go_simp)
 ·intro _ zZ w_ hB hr
  have e6:zZ.tmps[6]?=some (.pointer (some ⟨gz,0,none⟩)):=hr 6 (by decide);have k0:=aE hB Z.box.c0;have k1:=aE hB Z.box.c1;exact Rg.aG rfl (by go_simp)
 ·intro _ zZ w_ hB hr
  have e7:zZ.tmps[7]?=some (.pointer (some ⟨w4.heap.size,0,none⟩)):=hr 7 (by decide);have k0:=aE hB T.box.c0;have k1:=aE hB T.box.c1;exact Rg.aG rfl (by go_simp)
 ·intro _ zZ w_ hB hr
  have e27:=Rg.c_ (hr 27 (by decide));have e28:=Rg.c_ (hr 28 (by decide));have ef:=Rg.ef zZ;refine Rg.ae rfl (by go_simp;exact ⟨rfl,rfl⟩) ?_;refine (P6.out _ _ _ _ _ (aF.below oz.out hB) (aF.below o3.out hB)).mono ?_;rintro e w5 ⟨yQ,rfl,xg,hb5⟩;exact ⟨_,rfl,aJ.at xg (by have:=hB.size;omega),hb5⟩
 ·intro _ zZ w_ hB hr
  have e2:zZ.tmps[2]?=some (.pointer (some ⟨w.heap.size,0,none⟩)):=hr 2 (by decide);exact Rg.aG rfl (by go_simp)
 ·intro _ zZ w_ hB hr
  have e30:=Rg.c_ (hr 30 (by decide));have k1:=aE hB C.box.c1;exact Rg.aG rfl (by go_simp)
 ·intro _ zZ w_ hB hr
  obtain ⟨v29,e29,n29⟩:∃ v,zZ.tmps[29]?=some v∧(Rg.Val.at (aJ (we.heap.size) (zc))).ok v w_:=hr 29 (by decide);obtain ⟨s29,a29,l29,c29,NE,rfl,o29⟩:=(Rg.ah n29).view;have e31:=Rg.c_ (hr 31 (by decide));have ef:=Rg.ef zZ;refine Rg.ae rfl (by go_simp;exact ⟨rfl,rfl⟩) ?_;obtain rfl:=NE.out;refine (P7.out _ _ _ o29).mono ?_;rintro e w5 ⟨yQ,rfl,xg,hb5⟩;exact ⟨_,rfl,aJ.at xg (by have:=hB.size;omega),hb5⟩
 ·intro _ zZ w_ hB hr
  have e26:=Rg.c_ (hr 26 (by decide));obtain ⟨v32,e32,n32⟩:∃ v,zZ.tmps[32]?=some v∧(Rg.Val.at (aJ (we.heap.size) (zb))).ok v w_:=hr 32 (by decide);obtain ⟨s32,a32,l32,c32,Gg,rfl,o32⟩:=(Rg.ah n32).view;have ef:=Rg.ef zZ;refine Rg.ae rfl (by go_simp;exact ⟨rfl,rfl⟩) ?_;obtain rfl:=Gg.out;rw [ND.out];refine (P8.out _ _ _ _ _ (aF.below oU.out hB) o32).mono ?_;rintro e w5 ⟨yQ,rfl,xg,hb5⟩;exact ⟨_,rfl,aJ.at xg (by have:=hB.size;omega),hb5⟩
 intro vals wy hB hv hne;have n33:(Rg.Val.at (aJ (we.heap.size) (S2))).ok (vals 7) wy:=hv 7 (by decide);simp only [Rg.ay,Rg.fill,Act.put,Nat.reduceAdd];clear hv;obtain ⟨FE,a33,FB,El,D1,Af,Gn⟩:=(Rg.ah n33).view;simp only [Af];clear Af;have U2:=U.keep hB;have hB2:Below wd.heap.size we ((wy.setCell ⟨g8,0,none⟩ (.bool FE)).setCell ⟨g8,1,none⟩ (.slice a33 FB El)):=xN (xN (hB.mono DN) GP _) GP _;have oS:=xL (aF.bO Gn U2 (by decide) (.bool FE) (.slice a33 FB El));have U3:=aH.set2 U2 (.bool FE) (.slice a33 FB El)
 have hgz9:gz<wd.heap.size∧w.heap.size+1+1<wd.heap.size:=⟨Ik,by have:=DM;omega⟩
 have Z5:aH ((wy.setCell ⟨g8,0,none⟩ (.bool FE)).setCell ⟨g8,1,none⟩ (.slice a33 FB El)) gz 125 #[.bool s2,.slice az lz cz]:=((Z.keep hB).other (by omega) _).other (by omega) _;have R5:aH ((wy.setCell ⟨g8,0,none⟩ (.bool FE)).setCell ⟨g8,1,none⟩ (.slice a33 FB El)) (w.heap.size+1+1) 125 #[.bool false,.slice none 0 0]:=((R.keep hB).other (by omega) _).other (by omega) _;have oz5:=xL (aF.bO (aF.below oz.out hB) U2 (by decide) (.bool FE) (.slice a33 FB El));have He:=hw.trans (hB2.mono (show w.heap.size≤wd.heap.size by omega));have ⟨c0,c1,f0,f1,_⟩:=U2.box;unfold Rg.aX Rg.aX Oper.wp
 go_simp
 clear c0 c1 f0 f1 U2;generalize ((wy.setCell ⟨g8,0,none⟩ (.bool FE)).setCell ⟨g8,1,none⟩ (.slice a33 FB El))=wf at *;have y0:=Z5.box.c0;have y1:=Z5.box.c1;have y2:=U3.box.c0;have y3:=U3.box.c1;obtain rfl:=D1.out
 go_wp2_with (first | (go_at_call 185;(with_reducible refine (P9.out _ _ _ _ _ oz5.out oS.out).mono ?_);rintro e w6 ⟨v6,rfl,Fc,hb6⟩;obtain ⟨a6,k6,rfl,My,hv6⟩:=aF.view Fc;clear My hv6;have zP:=(show aF _ _ _ _ from Fc)) | (go_at_call 186;(with_reducible refine (PA.out _ _ _ zP).mono ?_);rintro e w7 ⟨v7,rfl,Ax,yC⟩;obtain ⟨a7,k7,rfl,hm7,hv7⟩:=aF.view Ax;clear hm7 hv7;have R7:=(R5.keep hb6).keep yC;(have ⟨c0,c1,f0,f1,_⟩:=R7.box)))
 generalize decide (F<0)=s7,(Wh.a_ F.natAbs).length=l7 at *;have Mq:=He.trans ((hb6.mono He.size).trans (yC.mono (Nat.le_trans He.size hb6.size)));have hr1:=aF.base (aF.bO Ax R7 (by decide) (.bool s7) (.slice a7 l7 k7)) (show w.heap.size≤w6.heap.size from Nat.le_trans He.size hb6.size);have hr2:Below w.heap.size w ((w7.setCell ⟨w.heap.size+1+1,0,none⟩ (.bool s7)).setCell ⟨w.heap.size+1+1,1,none⟩ (.slice a7 l7 k7)):=xN (xN Mq (by simp <;> omega) _) (by simp <;> omega) _;exact bodyPost_ret (v:=.agg #[.bool s7,.slice a7 l7 k7]) (by simp [results,Tryz.results157,go_sem, *]) rfl (⟨_,rfl,hr1,hr2⟩)
end
end Go.Proofs.YtggekfbfechonaaGreat
