/-
  Joined texts: contracts and plain lemmas.
-/
import Derived.Test.YtkalaljcbmkbmaaGreatB1
import Derived.Test.YtkalaljcbmkbmaaGreatB4
set_option linter.unusedSimpArgs false
set_option linter.unusedVariables false
set_option maxRecDepth 100000
set_option maxHeartbeats 8000000
namespace Go.Proofs.YtkalaljcbmkbmaaGreat
open Tryz
section
open Go.RowKit open Gr M Rg Rw Wh
def aG (W:World) (g:Nat) (T:TypeId) (xs:Array Value):Prop:=W.heap[g]?=some (.cells xs T (0,0))
namespace aG
variable {W W':World} {g:Nat} {T:TypeId} {xs:Array Value}
theorem lt (h:aG W g T xs):g<W.heap.size:=(Array.getElem?_eq_some_iff.1 h).1
theorem keep (h:aG W g T xs) (hb:Below W W W'):aG W' g T xs:=(hb.block g h.lt).trans h
theorem new (w:World) (xs:Array Value) (T:TypeId):aG (w.alloc (.cells xs T)) w T xs:=by
 show (w.heap.push (.cells xs T))[w.heap.size]?=_
 simp
theorem alloc (h:aG W g T xs) (o:Obj):aG (W.alloc o) g T xs:=h.keep ((IX _ _).alloc (IY _) o)
theorem drew (h:aG W g T xs):aG W.drew g T xs:=h
theorem cell (h:aG W g T xs) (i:Nat):W.cell? ⟨g,i,none⟩=xs[i]?:=by
 unfold aG at h;simp [World.cell?,h]
theorem Ih (h:aG W g T xs) (i:Nat):W.frozen? ⟨g,i,none⟩=false:=by
 unfold aG at h;simp [World.frozen?,h]
theorem set (h:aG W g T xs) (i:Nat) (x:Value):aG (W.setCell ⟨g,i,none⟩ x) g T (xs.setIfInBounds i x):=by
 have hl:=h.lt;unfold aG at *;rw [World.setCell]
 show (W.heap.modify g _)[g]?=_
 rw [Array.getElem?_modify,if_pos rfl,h];rfl
theorem other (h:aG W g T xs) {k i:Nat} (hk:g≠k) (x:Value):aG (W.setCell ⟨k,i,none⟩ x) g T xs:=by
 unfold aG at *;rw [World.setCell]
 show (W.heap.modify k _)[g]?=_
 rw [Array.getElem?_modify,if_neg (fun e=>hk e.symm),h]
theorem box {u v:Value} (h:aG W g T #[u,v]):aw W g u v:=⟨h.cell 0,h.cell 1,h.Ih 0,h.Ih 1,h.lt⟩
theorem aK {u v x y:Value} (h:aG W g T #[u,v,x,y]):jo W g u v x y:=by
 refine ⟨h.cell 0,h.cell 1,h.cell 2,h.cell 3,h.Ih 0,h.Ih 1,h.Ih 2,h.Ih 3,h.lt⟩
theorem set2 {u v:Value} (h:aG W g T #[u,v]) (x y:Value):aG ((W.setCell ⟨g,0,none⟩ x).setCell ⟨g,1,none⟩ y) g T #[x,y]:=(h.set 0 x).set 1 y
theorem pR {u v p q:Value} (h:aG W g T #[u,v,p,q]) (x y z t:Value):aG ((((W.setCell ⟨g,0,none⟩ x).setCell ⟨g,1,none⟩ y).setCell ⟨g,2,none⟩ z).setCell ⟨g,3,none⟩ t) g T #[x,y,z,t]:=(((h.set 0 x).set 1 y).set 2 z).set 3 t
theorem b2 {u v:Value} (h:aG W g T #[u,v]):W.cell? ⟨g,0,none⟩=some u/\W.cell? ⟨g,1,none⟩=some v:=⟨h.cell 0,h.cell 1⟩
theorem Jy {u v:Value} (h:aG W g T #[u,v]):W.cell? ⟨g,0,none⟩=some u/\W.cell? ⟨g,1,none⟩=some v/\W.frozen? ⟨g,0,none⟩=false/\W.frozen? ⟨g,1,none⟩=false:=⟨h.cell 0,h.cell 1,h.Ih 0,h.Ih 1⟩
theorem b4 {u v x y:Value} (h:aG W g T #[u,v,x,y]):W.cell? ⟨g,0,none⟩=some u/\W.cell? ⟨g,1,none⟩=some v/\W.cell? ⟨g,2,none⟩=some x/\W.cell? ⟨g,3,none⟩=some y:=⟨h.cell 0,h.cell 1,h.cell 2,h.cell 3⟩
theorem I0 {u v x y:Value} (h:aG W g T #[u,v,x,y]):W.cell? ⟨g,0,none⟩=some u/\W.cell? ⟨g,1,none⟩=some v/\W.cell? ⟨g,2,none⟩=some x/\W.cell? ⟨g,3,none⟩=some y/\W.frozen? ⟨g,0,none⟩=false/\W.frozen? ⟨g,1,none⟩=false/\W.frozen? ⟨g,2,none⟩=false/\W.frozen? ⟨g,3,none⟩=false:=⟨h.cell 0,h.cell 1,h.cell 2,h.cell 3,h.Ih 0,h.Ih 1,h.Ih 2,h.Ih 3⟩
theorem one {u:Value} (h:aG W g T #[u]) (x:Value):aG (W.setCell ⟨g,0,none⟩ x) g T #[x]:=h.set 0 x
end aG
theorem bA (w:World) (o:Obj):Below w w (w.alloc o):=(IX _ w).alloc (IY _) o
theorem cf (w:World) (xs1:Array Value) (T1:TypeId):∃ wc,w.alloc (.cells xs1 T1)=wc/\aG wc w T1 xs1/\Below w w wc:=
 ⟨_,rfl,aG.new w xs1 T1,bA w _⟩
theorem eC (w:World) (xs1:Array Value) (T1:TypeId) (xs2:Array Value) (T2:TypeId):∃ wc,(w.alloc (.cells xs1 T1)).alloc (.cells xs2 T2)=wc/\aG wc w T1 xs1/\aG wc (w.heap.size+1) T2 xs2/\Below w w wc:=by
 obtain ⟨wc,rfl,h1,hb⟩:=cf w xs1 T1;have h2:=aG.new (w.alloc (.cells xs1 T1)) xs2 T2;rw [IV] at h2;exact ⟨_,rfl,h1.alloc _,h2,hb.alloc hb.size _⟩
theorem dB (w:World) (xs1:Array Value) (T1:TypeId) (xs2:Array Value) (T2:TypeId) (Ov:Array Value) (T3:TypeId):∃ wc,((w.alloc (.cells xs1 T1)).alloc (.cells xs2 T2)).alloc (.cells Ov T3)=wc/\aG wc w T1 xs1/\aG wc (w.heap.size+1) T2 xs2/\aG wc (w.heap.size+1+1) T3 Ov/\Below w w wc:=by
 obtain ⟨wc,rfl,h1,h2,hb⟩:=eC w xs1 T1 xs2 T2;have h3:=aG.new ((w.alloc (.cells xs1 T1)).alloc (.cells xs2 T2)) Ov T3;rw [IV,IV] at h3;exact ⟨_,rfl,h1.alloc _,h2.alloc _,h3,hb.alloc hb.size _⟩
theorem ej (w:World) (xs1:Array Value) (T1:TypeId) (xs2:Array Value) (T2:TypeId) (Ov:Array Value) (T3:TypeId) (Yy:Array Value) (T4:TypeId):∃ wc,(((w.alloc (.cells xs1 T1)).alloc (.cells xs2 T2)).alloc (.cells Ov T3)).alloc (.cells Yy T4)=wc/\aG wc w T1 xs1/\aG wc (w.heap.size+1) T2 xs2/\aG wc (w.heap.size+1+1) T3 Ov/\aG wc (w.heap.size+1+1+1) T4 Yy/\Below w w wc:=by
 obtain ⟨wc,rfl,h1,h2,h3,hb⟩:=dB w xs1 T1 xs2 T2 Ov T3;have h4:=aG.new (((w.alloc (.cells xs1 T1)).alloc (.cells xs2 T2)).alloc (.cells Ov T3)) Yy T4;rw [IV,IV,IV] at h4;exact ⟨_,rfl,h1.alloc _,h2.alloc _,h3.alloc _,h4,hb.alloc hb.size _⟩
theorem aF.apart {W:World} {base g:Nat} {T:TypeId} {sl:Value} {xs:List Int} {ys:Array Value} (h:aF W base sl xs) (hv:aG W g T ys) (hT:T≠3):sl.ownBlock≠some g:=by
 intro e;obtain ⟨-,h⟩:=h
 rcases h with ⟨rfl,-⟩ | ⟨g',cap,cur,rfl,-,hh,-⟩
 ·simp [Value.ownBlock] at e
 simp only [Value.ownBlock,Option.some.injEq] at e;subst e;unfold aG at hv;rw [hv] at hh
 injection hh with hh
 injection hh with _ h2
 exact hT h2
theorem aF.ep {W:World} {base g i:Nat} {T:TypeId} {sl:Value} {xs:List Int} {ys:Array Value} (h:aF W base sl xs) (hv:aG W g T ys) (hT:T≠3) (x:Value):aF (W.setCell ⟨g,i,none⟩ x) base sl xs:=by
 refine World.ownsRow.kept (row:=some g) h ⟨rfl,rfl,rfl,by simp [go_sem],fun k hk hne=>?_⟩ (by
  cases hs:sl.ownBlock with
  | none=>exact Or.inl rfl
  | some k=>exact Or.inr fun e=>h.apart hv hT (by rw [hs];exact e))
 rw [World.setCell]
 show (W.heap.modify g _)[k]?=_
 rw [Array.getElem?_modify,if_neg (fun e=>hne (by rw [e]))]
theorem aF.bQ {W:World} {base g:Nat} {T:TypeId} {sl:Value} {xs:List Int} {u v:Value} (h:aF W base sl xs) (hv:aG W g T #[u,v]) (hT:T≠3) (x y:Value):aF ((W.setCell ⟨g,0,none⟩ x).setCell ⟨g,1,none⟩ y) base sl xs:=
 (h.ep hv hT x).ep (hv.set 0 x) hT y
theorem aF.du {W:World} {base g:Nat} {T:TypeId} {sl:Value} {xs:List Int} {u v p q:Value} (h:aF W base sl xs) (hv:aG W g T #[u,v,p,q]) (hT:T≠3) (x y z t:Value):aF ((((W.setCell ⟨g,0,none⟩ x).setCell ⟨g,1,none⟩ y).setCell ⟨g,2,none⟩ z).setCell ⟨g,3,none⟩ t) base sl xs:=
 (((h.ep hv hT x).ep (hv.set 0 x) hT y).ep ((hv.set 0 x).set 1 y) hT z).ep (((hv.set 0 x).set 1 y).set 2 z) hT t
theorem kO {w w':World} {base:Nat} {sl:Value} {xs:List Int} (h:Hid (aF w base sl xs)) (hb:Below w w w'):Hid (aF w' base sl xs):=IU (aF.below h.out hb)
theorem sO {W:World} {base g:Nat} {T:TypeId} {sl:Value} {xs:List Int} {u v:Value} (h:Hid (aF W base sl xs)) (hv:aG W g T #[u,v]) (hT:T≠3) (x y:Value):Hid (aF ((W.setCell ⟨g,0,none⟩ x).setCell ⟨g,1,none⟩ y) base sl xs):=IU (h.out.bQ hv hT x y)
def aI (base:Nat) (z:Int) (v:Value) (W:World):Prop:=∃ sl,v=.agg #[decide (z<0),sl]/\aF W base sl (Wh.a_ z.natAbs)
theorem aI.view {base:Nat} {z:Int} {v:Value} {W:World} (h:aI base z v W):∃ (s:Bool) (a:Option Addr) (l c:Nat),Hid (s=decide (z<0))/\v=.agg #[s,.slice a l c]/\aF W base (.slice a l c) (Wh.a_ z.natAbs):=by
 obtain ⟨sl,rfl,ho⟩:=h;obtain ⟨a,c,rfl,-,-⟩:=aF.view ho;exact ⟨_,a,_,c,IU rfl,rfl,ho⟩
theorem aI.UO {base k:Nat} {z:Int} {sl:Value} {W:World} (h:aF W k sl (Wh.a_ z.natAbs)) (hk:base<=k):(Rg.Val.at (aI base z)).ok (.agg #[decide (z<0),sl]) W:=fun _ hb=>⟨sl,rfl,(aF.below h hb).base hk⟩
theorem aI.at {base k:Nat} {z:Int} {sl:Value} {W:World} (h:aZ W k sl z) (hk:base<=k):(Rg.Val.at (aI base z)).ok (.agg #[decide (z<0),sl]) W:=aI.UO h hk
theorem aI.get {a:Option Value} {base:Nat} {z:Int} {W:World} (h:∃ v,a=some v/\(Rg.Val.at (aI base z)).ok v W):∃ (s:Bool) (A:Option Addr) (l c:Nat),Hid (s=decide (z<0))/\a=some (.agg #[s,.slice A l c])/\aF W base (.slice A l c) (Wh.a_ z.natAbs):=by
 obtain ⟨v,h1,h2⟩:=h;obtain ⟨s,A,l,c,hs,rfl,o⟩:=(cE h2).view;exact ⟨s,A,l,c,hs,h1,o⟩
theorem aI.ret {P:Program} {f:FuncId} {args:Array Value} {w1 W:World} {z:Int} (hB:Below w1 w1 W) (h:Calls P f args W fun e w'=>∃ sl,e=.returned (.agg #[decide (z<0),sl])/\aZ w' W sl z/\Below W W w') :
  Calls P f args W fun e w'=>∃ v,e=.returned v/\(Rg.Val.at (aI w1 z)).ok v w'/\Below W W w':=
 h.mono fun _ _ ⟨_,h1,h2,h3⟩=>⟨_,h1,aI.at h2 hB.size,h3⟩
def Cy (base:Nat) (z r:Int) (v:Value) (W:World):Prop:=∃ sl,v=.tuple #[.agg #[decide (z<0),sl],r]/\aF W base sl (Wh.a_ z.natAbs)
theorem Cy.view {base:Nat} {z r:Int} {v:Value} {W:World} (h:Cy base z r v W):∃ (s:Bool) (a:Option Addr) (l c:Nat),Hid (s=decide (z<0))/\v=.tuple #[.agg #[s,.slice a l c],r]/\aF W base (.slice a l c) (Wh.a_ z.natAbs):=by
 obtain ⟨sl,rfl,ho⟩:=h;obtain ⟨a,c,rfl,-,-⟩:=aF.view ho;exact ⟨_,a,_,c,IU rfl,rfl,ho⟩
theorem Cy.at {base k:Nat} {z r:Int} {sl:Value} {W:World} (h:aZ W k sl z) (hk:base<=k):(Rg.Val.at (Cy base z r)).ok (.tuple #[.agg #[decide (z<0),sl],r]) W:=fun _ hb=>⟨sl,rfl,(aF.below h hb).base hk⟩
def cQ (base:Nat) (zs:List Int) (v:Value) (W:World):Prop:=∃ g,v=.slice (some ⟨g,0,none⟩) zs.length zs.length/\cH W g zs
inductive bk (W:World):List Int->List Value->Prop where
 | nil:bk W [] []
 | cons {z:Int} {zs:List Int} {s:Bool} {a:Option Addr} {l c b:Nat} {us:List Value} (hs:s=decide (z<0)) (ho:aF W b (.slice a l c) (Wh.a_ z.natAbs)) (h:bk W zs us):bk W (z :: zs) (.bool s :: .slice a l c :: us)
theorem bk.get {W:World}:∀ {zs:List Int} {us:List Value},bk W zs us->∀ (k:Nat) (z:Int),zs[k]?=some z->∃ (a:Option Addr) (cap:Nat),us[k*2]?=some (.bool (decide (z<0)))/\us[k*2+1]?=some (.slice a (Wh.a_ z.natAbs).length cap)/\aF W 0 (.slice a (Wh.a_ z.natAbs).length cap) (Wh.a_ z.natAbs)
 | _,_,.nil,k,z,h=>by simp at h
 | _,_,.cons (l:=l) hs ho hr,0,z,h=>by
  simp only [List.getElem?_cons_zero,Option.some.injEq] at h;subst h;subst hs;obtain ⟨a',c',e,-,-⟩:=aF.view ho
  injection e with e1 e2 e3
  subst e1 e2 e3;exact ⟨_,_,rfl,rfl,ho.base (Nat.zero_le _)⟩
 | _,_,.cons hs ho hr,k+1,z,h=>by
  obtain ⟨a,cap,h1,h2,h3⟩:=hr.get k z (by simpa using h);refine ⟨a,cap,?_,?_,h3⟩
  ·rw [show (k+1)*2=k*2+1+1 by omega];simpa using h1
  rw [show (k+1)*2+1=k*2+1+1+1 by omega];simpa using h2
theorem cQ.at {base:Nat} {zs:List Int} {us:List Value} {W:World} {T:TypeId} {n:Nat} (hb:base<=W.heap.size) (h:bk W zs us) (hn:n=zs.length):(Rg.Val.at (cQ base zs)).ok (.slice (some ⟨W,0,none⟩) n n) (W.alloc (.cells us.toArray T)):=by
 subst hn
 refine fun w' hb'=>⟨W,rfl,fun k z hz=>?_⟩
 obtain ⟨a,cap,h1,h2,h3⟩:=h.get k z hz;have hv:=(aG.new W us.toArray T).keep hb';refine ⟨a,cap,(hv.cell _).trans (by simpa using h1),(hv.cell _).trans (by simpa using h2),aF.below (aF.alloc h3 _) hb'⟩
def HD (base:Nat) (T:TypeId) (xs:Array Value) (v:Value) (W:World):Prop:=∃ g,base<=g/\v=.pointer (some ⟨g,0,none⟩)/\aG W g T xs
theorem HD.at {base:Nat} {T:TypeId} {xs:Array Value} {W:World} (hb:base<=W.heap.size):(Rg.Val.at (HD base T xs)).ok (.pointer (some ⟨W,0,none⟩)) (W.alloc (.cells xs T)):=
 fun _ hb'=>⟨_,hb,rfl,(aG.new W xs T).keep hb'⟩
theorem Rg.Gd {P:Program} {Q:Exit->Act->World->Prop} {ops:Array Oper} {o:Oper} {a:Act} {w:World} {x:Value} {V:Rg.Val} (hw:Region.wanted o (yielded ops a.tmps)=true) (h:(execOp a.eval o).run P w=.ok (.value x) w) (hV:V.ok x w):Rg.Does P ops Q V o a w:=by
 unfold Rg.Does;rw [if_pos hw];unfold Oper.wp;rw [h];exact ⟨x,rfl,hV,IX _ _⟩
instance {W W':World} {g:Nat} {T:TypeId} {xs:Array Value}:HAdd (PLift (aG W g T xs)) (PLift (Below W W W')) (PLift (aG W' g T xs)):=⟨fun x h=>⟨x.down.keep h.down⟩⟩
theorem uK (w3:World) (n:Nat) (hn:w3.heap.size=n) (u v x y:Value) (T:TypeId) :
  (∃ gx gz,n<=gx/\n<=gz/\Value.pointer (some ⟨n,0,none⟩)=.pointer (some ⟨gx,0,none⟩)/\Value.pointer (some ⟨n+1,0,none⟩)=.pointer (some ⟨gz,0,none⟩)/\aG ((w3.alloc (.cells #[u,v] T)).alloc (.cells #[x,y] T)).drew gx T #[u,v]/\aG ((w3.alloc (.cells #[u,v] T)).alloc (.cells #[x,y] T)).drew gz T #[x,y]/\Below n w3 ((w3.alloc (.cells #[u,v] T)).alloc (.cells #[x,y] T)).drew)/\
  (∃ gx gz,n<=gx/\n<=gz/\Value.pointer (some ⟨n+1,0,none⟩)=.pointer (some ⟨gx,0,none⟩)/\Value.pointer (some ⟨n,0,none⟩)=.pointer (some ⟨gz,0,none⟩)/\aG ((w3.alloc (.cells #[u,v] T)).alloc (.cells #[x,y] T)).drew gx T #[x,y]/\aG ((w3.alloc (.cells #[u,v] T)).alloc (.cells #[x,y] T)).drew gz T #[u,v]/\Below n w3 ((w3.alloc (.cells #[u,v] T)).alloc (.cells #[x,y] T)).drew):=by
 subst hn;have h1:aG ((w3.alloc (.cells #[u,v] T)).alloc (.cells #[x,y] T)).drew w3 T #[u,v]:=(aG.new w3 #[u,v] T).alloc _
 have h2:aG ((w3.alloc (.cells #[u,v] T)).alloc (.cells #[x,y] T)).drew (w3.heap.size+1) T #[x,y]:=by
  have:=aG.new (w3.alloc (.cells #[u,v] T)) #[x,y] T;rw [IV] at this;exact this
 have hb:Below w3 w3 ((w3.alloc (.cells #[u,v] T)).alloc (.cells #[x,y] T)).drew:=(((IX _ _).alloc (IY _) _).alloc (by rw [IV];omega) _).drew;exact ⟨⟨_,_,IY _,Nat.le_succ _,rfl,rfl,h1,h2,hb⟩,⟨_,_,Nat.le_succ _,IY _,rfl,rfl,h2,h1,hb⟩⟩
theorem jk (a b x z:Int) (vx vz:Value) (w:World) (bx bz:Nat) (hox:aZ w bx vx x) (JD:aZ w bz vz z) (hx:Wh.sz x 1000) (hz:Wh.sz z 1000) (ha1:-1000<=a) (ha2:a<=1000) (hb1:-10000<=b) (hb2:b<=10000) :
  Calls prog 182 #[.agg #[a,b],.agg #[decide (x<0),vx,decide (z<0),vz]] w fun e w'=>∃ sl,e=.returned (.agg #[decide (ai a b x z<0),sl])/\aZ w' w sl (ai a b x z)/\Below w w w':=by
 obtain ⟨ax,cx,rfl,-,-⟩:=aF.view hox;obtain ⟨az,cz,rfl,-,-⟩:=aF.view JD;have hq1:Wh.sz (-2*a) 1000:=aL (be ω ω) ω;have hq2:Wh.sz (-8*b) 1000:=aL (be ω ω) ω;have haa:-1000000<=a*a/\a*a<=1000000:=aH (x:=a) (y:=a) (m:=1000) (n:=1000);have hq3:Wh.sz (a*a) 1000:=aL (be ω ω) ω
 have mm:∀ (l:List Int),(∀ y ∈ l,Wh.sz y 1000)->l.length<=5->∀ k,Wh.small ((l.take k).foldl (·*·) 1):=fun l h hl k=>ce (aL (kk h k) (show 1+l.length*1000<=8000 by omega)) ω
 have mp:∀ (l:List Int),(∀ y ∈ l,Wh.sz y 1000)->l.length<=5->Wh.sz (l.foldl (·*·) 1) 6000:=fun l h hl=>by have:=kk h l.length;rw [List.take_length] at this;exact aL this ω
 have m0:∀ (l:List Int),(∀ y ∈ l,Wh.sz y 1000)->∀ y ∈ l,Wh.small y:=fun l h y hy=>ce (h y hy) ω
 have m1:∀ y ∈ ([x,x,x,x]:List Int),Wh.sz y 1000:=by intro y h;simp only [List.mem_cons,List.not_mem_nil,or_false] at h;rcases h with h | h | h | h <;> (subst h;assumption)
 have R1:=fun g cap W (h:cH W g [x,x,x,x])=>bi [x,x,x,x] g cap W h σ (m0 _ m1) (mm _ m1 σ)
 have p1:=mp _ m1 σ
 have m2:∀ y ∈ ([-2*a,x,x,z,z]:List Int),Wh.sz y 1000:=by intro y h;simp only [List.mem_cons,List.not_mem_nil,or_false] at h;rcases h with h | h | h | h | h <;> (subst h;assumption)
 have R2:=fun g cap W (h:cH W g [-2*a,x,x,z,z])=>bi [-2*a,x,x,z,z] g cap W h σ (m0 _ m2) (mm _ m2 σ)
 have p2:=mp _ m2 σ
 have m3:∀ y ∈ ([-8*b,x,z,z,z]:List Int),Wh.sz y 1000:=by intro y h;simp only [List.mem_cons,List.not_mem_nil,or_false] at h;rcases h with h | h | h | h | h <;> (subst h;assumption)
 have R3:=fun g cap W (h:cH W g [-8*b,x,z,z,z])=>bi [-8*b,x,z,z,z] g cap W h σ (m0 _ m3) (mm _ m3 σ)
 have p3:=mp _ m3 σ
 have m4:∀ y ∈ ([a*a,z,z,z,z]:List Int),Wh.sz y 1000:=by intro y h;simp only [List.mem_cons,List.not_mem_nil,or_false] at h;rcases h with h | h | h | h | h <;> (subst h;assumption)
 have R4:=fun g cap W (h:cH W g [a*a,z,z,z,z])=>bi [a*a,z,z,z,z] g cap W h σ (m0 _ m4) (mm _ m4 σ)
 have p4:=mp _ m4 σ;have hT:=yz a b x z;generalize hp1:([x,x,x,x]:List Int).foldl (·*·) 1=Li at *;generalize hp2:([-2*a,x,x,z,z]:List Int).foldl (·*·) 1=Lj at *;generalize hp3:([-8*b,x,z,z,z]:List Int).foldl (·*·) 1=Lk at *;generalize Ti:([a*a,z,z,z,z]:List Int).foldl (·*·) 1=RM at *
 have ms:∀ y ∈ [Li,Lj,Lk,RM],Wh.sz y 6000:=by intro y h;simp only [List.mem_cons,List.not_mem_nil,or_false] at h;rcases h with h | h | h | h <;> (subst h;assumption)
 have R5:=fun g cap W (h:cH W g [Li,Lj,Lk,RM])=>mF [Li,Lj,Lk,RM] g cap W h σ (fun y hy=>ce (ms y hy) ω) (fun k=>ce (aL (rj ms ω k) (show 6000+4<=7000 by omega)) ω)
 rw [hT] at R5
 have N1:=fun W=>br (-2*a) W ω ω
 have N2:=fun W=>br (-8*b) W ω ω
 have N3:=fun W=>br (a*a) W ω ω
 have i1:IntKind.i64.wrap (-2*a)=-2*a:=IntWalk.i64_in _ ω;have i2:IntKind.i64.wrap (-8*b)=-8*b:=IntWalk.i64_in _ ω;have i3:IntKind.i64.wrap (a*a)=a*a:=IntWalk.i64_in _ ω;replace R1:=IU R1;replace R2:=IU R2;replace R3:=IU R3;replace R4:=IU R4;replace R5:=IU R5;replace N1:=IU N1;replace N2:=IU N2;replace N3:=IU N3;replace i1:=IU i1;replace i2:=IU i2;replace i3:=IU i3;generalize hF:ai a b x z=F at *;generalize hs1:decide (x<0)=s1 at *;replace hs1:=IU hs1.symm;generalize hs2:decide (z<0)=s2 at *;replace hs2:=IU hs2.symm;replace hox:=IU (show aF _ _ _ _ from hox);replace JD:=IU (show aF _ _ _ _ from JD);generalize (Wh.a_ z.natAbs).length=lz,(Wh.a_ x.natAbs).length=lx at *;obtain ⟨w3,hw3,b1,b2,b3,hB⟩:=dB w #[a,b] 25 #[s1,.slice ax lx cx,s2,.slice az lz cz] 174 #[false,.slice none 0 0] 116;have LM:=IU (aF.below hox.out hB);have LN:=IU (aF.below JD.out hB)
 have hz3:w3.heap.size=w.heap.size+3:=by rw [←hw3,IV,gy]
 clear hox JD;have e0:=b2.aK.c0;have e1:=b2.aK.c1;have e2:=b2.aK.c2;have e3:=b2.aK.c3;go_enter func182,ntmps182
 go_wp2
 go_upto_region 1 with fail
 go_cut [5,6] (fun p q wx=>∃ gx gz,w.heap.size+3<=gx/\w.heap.size+3<=gz/\p=.pointer (some ⟨gx,0,none⟩)/\q=.pointer (some ⟨gz,0,none⟩)/\aG wx gx 116 #[s1,.slice ax lx cx]/\aG wx gz 116 #[s2,.slice az lz cz]/\Below (w.heap.size+3) w3 wx)
 case first=>
  go_region
  all_goals
   go_wp2_with fail
   go_meet
   first
   | exact (uK _ _ hz3 _ _ _ _ _).1
   | exact (uK _ _ hz3 _ _ _ _ _).2
 case rest=>
 obtain ⟨gx,gz,hgx,hgz,rfl,rfl,X,Z,hbx⟩:=hcut;rw [←hz3] at hbx;have ox:=IU (aF.below LM.out hbx);have oz:=IU (aF.below LN.out hbx);have C:=b1.keep hbx;have R:=b3.keep hbx;have hw:=j_ hB hbx
 have Lg:w.heap.size+3<=wc.heap.size:=by have:=hbx.size;omega
 clear hz3
 go_upto_region 2 with fail
 refine b8 40 [.is (.agg #[s1,.slice ax lx cx]),.is (.agg #[s1,.slice ax lx cx]),.is (.agg #[s1,.slice ax lx cx]),.is (.agg #[s1,.slice ax lx cx]),.at (cQ (wc.heap.size) [x,x,x,x]),.at (aI (wc.heap.size) (Li)),.is (.pointer (some ⟨w,0,none⟩)),.is a,.is ((-2)*a:Int),.at (aI (wc.heap.size) (-2*a)),.is (.agg #[s1,.slice ax lx cx]),.is (.agg #[s1,.slice ax lx cx]),.is (.agg #[s2,.slice az lz cz]),.is (.agg #[s2,.slice az lz cz]),.at (cQ (wc.heap.size) [-2*a,x,x,z,z]),.at (aI (wc.heap.size) (Lj)),.is (.pointer (some ⟨w,1,none⟩)),.is b,.is ((-8)*b:Int),.at (aI (wc.heap.size) (-8*b)),.is (.agg #[s1,.slice ax lx cx]),.is (.agg #[s2,.slice az lz cz]),.is (.agg #[s2,.slice az lz cz]),.is (.agg #[s2,.slice az lz cz]),.at (cQ (wc.heap.size) [-8*b,x,z,z,z]),.at (aI (wc.heap.size) (Lk)),.is (.pointer (some ⟨w,0,none⟩)),.is a,.is (.pointer (some ⟨w,0,none⟩)),.is a,.is (a*a:Int),.at (aI (wc.heap.size) (a*a)),.is (.agg #[s2,.slice az lz cz]),.is (.agg #[s2,.slice az lz cz]),.is (.agg #[s2,.slice az lz cz]),.is (.agg #[s2,.slice az lz cz]),.at (cQ (wc.heap.size) [a*a,z,z,z,z]),.at (aI (wc.heap.size) (RM)),.at (cQ (wc.heap.size) [Li,Lj,Lk,RM]),.at (aI (wc.heap.size) (F))] κ κ κ ⟨?_,?_,?_,?_,?_,?_,?_,?_,?_,?_,?_,?_,?_,?_,?_,?_,?_,?_,?_,?_,?_,?_,?_,?_,?_,?_,?_,?_,?_,?_,?_,?_,?_,?_,?_,?_,?_,?_,?_,?_,fun h_=>absurd h_ δ,trivial⟩ ?_
 all_goals try ((first | (refine Rg.b1 ?_;intro zZ w_ hB e) | (refine Rg.b2 ?_;intro zZ w_ hB e f));have kz:=aE hB X.box.c0;have kz:=aE hB X.box.c1;have kz:=aE hB C.box.c0;have ec:=Rg.ec zZ;have kz:=aE hB Z.box.c0;have kz:=aE hB Z.box.c1;have kz:=aE hB C.box.c1;(first | (go_simp;done) | (go_simp;exact Rg.wo ω)))
 ·intro _ zZ w_ hB hr
  have e11:=Rg.t_ (hr 11 δ);have e12:=Rg.t_ (hr 12 δ);have e13:=Rg.t_ (hr 13 δ);have e14:=Rg.t_ (hr 14 δ);refine oO rfl (x:=.slice (some ⟨w_,0,none⟩) 4 4) (ob:=.cells (List.toArray [.bool s1,.slice ax lx cx,.bool s1,.slice ax lx cx,.bool s1,.slice ax lx cx,.bool s1,.slice ax lx cx]) 116) (by first | (go_simp;done) | (go_simp;exact ⟨rfl,rfl⟩) | (go_simp;rfl)) (cQ.at (by have:=hB.size;omega) ?_ rfl);exact bk.cons hs1.out (aF.below ox.out hB) (bk.cons hs1.out (aF.below ox.out hB) (bk.cons hs1.out (aF.below ox.out hB) (bk.cons hs1.out (aF.below ox.out hB) (bk.nil))))
 ·intro _ zZ w_ hB hr
  obtain ⟨v15,e15,n15⟩:∃ v,zZ.tmps[15]?=some v/\(Rg.Val.at (cQ (wc.heap.size) [x,x,x,x])).ok v w_:=hr 15 δ;obtain ⟨g15,rfl,Oq⟩:=cE n15;have ef:=Rg.ef zZ;refine af rfl τ ?_;exact aI.ret hB (R1.out _ _ _ Oq)
 ·refine Rg.o1 ?_;intro zZ w_ hB e
  have ef:=Rg.ef zZ;refine af rfl τ ?_;exact aI.ret hB (N1.out _)
 ·intro _ zZ w_ hB hr
  obtain ⟨s20,a20,l20,c20,Xh,e20,o20⟩:=aI.get (hr 20 δ);have e21:=Rg.t_ (hr 21 δ);have e22:=Rg.t_ (hr 22 δ);have e23:=Rg.t_ (hr 23 δ);have e24:=Rg.t_ (hr 24 δ);refine oO rfl (x:=.slice (some ⟨w_,0,none⟩) 5 5) (ob:=.cells (List.toArray [.bool s20,.slice a20 l20 c20,.bool s1,.slice ax lx cx,.bool s1,.slice ax lx cx,.bool s2,.slice az lz cz,.bool s2,.slice az lz cz]) 116) (by first | (go_simp;done) | (go_simp;exact ⟨rfl,rfl⟩) | (go_simp;rfl)) (cQ.at (by have:=hB.size;omega) ?_ rfl);exact bk.cons Xh.out o20 (bk.cons hs1.out (aF.below ox.out hB) (bk.cons hs1.out (aF.below ox.out hB) (bk.cons hs2.out (aF.below oz.out hB) (bk.cons hs2.out (aF.below oz.out hB) (bk.nil)))))
 ·intro _ zZ w_ hB hr
  obtain ⟨v25,e25,n25⟩:∃ v,zZ.tmps[25]?=some v/\(Rg.Val.at (cQ (wc.heap.size) [-2*a,x,x,z,z])).ok v w_:=hr 25 δ;obtain ⟨g25,rfl,Tu⟩:=cE n25;have ef:=Rg.ef zZ;refine af rfl τ ?_;exact aI.ret hB (R2.out _ _ _ Tu)
 ·refine Rg.o1 ?_;intro zZ w_ hB e
  have ef:=Rg.ef zZ;refine af rfl τ ?_;exact aI.ret hB (N2.out _)
 ·intro _ zZ w_ hB hr
  obtain ⟨s30,a30,l30,c30,Xn,e30,o30⟩:=aI.get (hr 30 δ);have e31:=Rg.t_ (hr 31 δ);have e32:=Rg.t_ (hr 32 δ);have e33:=Rg.t_ (hr 33 δ);have e34:=Rg.t_ (hr 34 δ);refine oO rfl (x:=.slice (some ⟨w_,0,none⟩) 5 5) (ob:=.cells (List.toArray [.bool s30,.slice a30 l30 c30,.bool s1,.slice ax lx cx,.bool s2,.slice az lz cz,.bool s2,.slice az lz cz,.bool s2,.slice az lz cz]) 116) (by first | (go_simp;done) | (go_simp;exact ⟨rfl,rfl⟩) | (go_simp;rfl)) (cQ.at (by have:=hB.size;omega) ?_ rfl);exact bk.cons Xn.out o30 (bk.cons hs1.out (aF.below ox.out hB) (bk.cons hs2.out (aF.below oz.out hB) (bk.cons hs2.out (aF.below oz.out hB) (bk.cons hs2.out (aF.below oz.out hB) (bk.nil)))))
 ·intro _ zZ w_ hB hr
  obtain ⟨v35,e35,n35⟩:∃ v,zZ.tmps[35]?=some v/\(Rg.Val.at (cQ (wc.heap.size) [-8*b,x,z,z,z])).ok v w_:=hr 35 δ;obtain ⟨g35,rfl,YY⟩:=cE n35;have ef:=Rg.ef zZ;refine af rfl τ ?_;exact aI.ret hB (R3.out _ _ _ YY)
 ·refine Rg.o1 ?_;intro zZ w_ hB e
  have ef:=Rg.ef zZ;refine af rfl τ ?_;exact aI.ret hB (N3.out _)
 ·intro _ zZ w_ hB hr
  obtain ⟨s42,a42,l42,c42,Xv,e42,o42⟩:=aI.get (hr 42 δ);have e43:=Rg.t_ (hr 43 δ);have e44:=Rg.t_ (hr 44 δ);have e45:=Rg.t_ (hr 45 δ);have e46:=Rg.t_ (hr 46 δ);refine oO rfl (x:=.slice (some ⟨w_,0,none⟩) 5 5) (ob:=.cells (List.toArray [.bool s42,.slice a42 l42 c42,.bool s2,.slice az lz cz,.bool s2,.slice az lz cz,.bool s2,.slice az lz cz,.bool s2,.slice az lz cz]) 116) (by first | (go_simp;done) | (go_simp;exact ⟨rfl,rfl⟩) | (go_simp;rfl)) (cQ.at (by have:=hB.size;omega) ?_ rfl);exact bk.cons Xv.out o42 (bk.cons hs2.out (aF.below oz.out hB) (bk.cons hs2.out (aF.below oz.out hB) (bk.cons hs2.out (aF.below oz.out hB) (bk.cons hs2.out (aF.below oz.out hB) (bk.nil)))))
 ·intro _ zZ w_ hB hr
  obtain ⟨v47,e47,n47⟩:∃ v,zZ.tmps[47]?=some v/\(Rg.Val.at (cQ (wc.heap.size) [a*a,z,z,z,z])).ok v w_:=hr 47 δ;obtain ⟨g47,rfl,Ya⟩:=cE n47;have ef:=Rg.ef zZ;refine af rfl τ ?_;exact aI.ret hB (R4.out _ _ _ Ya)
 ·intro _ zZ w_ hB hr
  obtain ⟨s16,a16,L_,c16,Kb,e16,o16⟩:=aI.get (hr 16 δ);obtain ⟨s26,a26,l26,c26,QQ,e26,YW⟩:=aI.get (hr 26 δ);obtain ⟨s36,a36,l36,c36,Xr,e36,o36⟩:=aI.get (hr 36 δ);obtain ⟨S0,a48,Sr,Rx,QT,e48,Yb⟩:=aI.get (hr 48 δ);refine oO rfl (x:=.slice (some ⟨w_,0,none⟩) 4 4) (ob:=.cells (List.toArray [.bool s16,.slice a16 L_ c16,.bool s26,.slice a26 l26 c26,.bool s36,.slice a36 l36 c36,.bool S0,.slice a48 Sr Rx]) 116) (by first | (go_simp;done) | (go_simp;exact ⟨rfl,rfl⟩) | (go_simp;rfl)) (cQ.at (by have:=hB.size;omega) ?_ rfl);exact bk.cons Kb.out o16 (bk.cons QQ.out YW (bk.cons Xr.out o36 (bk.cons QT.out Yb (bk.nil))))
 ·intro _ zZ w_ hB hr
  obtain ⟨v49,e49,n49⟩:∃ v,zZ.tmps[49]?=some v/\(Rg.Val.at (cQ (wc.heap.size) [Li,Lj,Lk,RM])).ok v w_:=hr 49 δ;obtain ⟨g49,rfl,o49⟩:=cE n49;have ef:=Rg.ef zZ;refine af rfl τ ?_;exact aI.ret hB (R5.out _ _ _ o49)
 intro vals wz hB hv hne;have n50:(Rg.Val.at (aI (wc.heap.size) (F))).ok (vals 39) wz:=hv 39 δ;simp only [bD,Rg.fill,Act.put,Nat.reduceAdd];obtain ⟨Yf,a50,YQ,Wk,Xx,Yv,o50⟩:=(cE n50).view;simp only [Yv];have R2:=R.keep hB;have ⟨c0,c1,f0,f1,_⟩:=R2.box;have hr1:=aF.base (aF.bQ o50 R2 δ (.bool Yf) (.slice a50 YQ Wk)) (Nat.le_trans (Nat.le_add_right _ 3) Lg);have hr2:Below w w ((wz.setCell ⟨w.heap.size+1+1,0,none⟩ (.bool Yf)).setCell ⟨w.heap.size+1+1,1,none⟩ (.slice a50 YQ Wk)):=IW (IW (j_ hw hB) (by simp <;> omega) _) (by simp <;> omega) _;unfold aV aV Oper.wp;go_simp
 go_wp2;exact D_ (v:=.agg #[Yf,.slice a50 YQ Wk]) results182 ⟨_,by rw [Xx.out],hr1,hr2⟩
theorem fM (a b x z:Int) (vx vz:Value) (w:World) (bx bz:Nat) (hox:aZ w bx vx x) (JD:aZ w bz vz z) (hx:Wh.sz x 1000) (hz:Wh.sz z 1000) (ha1:-1000<=a) (ha2:a<=1000) (hb1:-10000<=b) (hb2:b<=10000) :
  Calls prog 167 #[.agg #[a,b],.agg #[decide (x<0),vx,decide (z<0),vz]] w fun e w'=>∃ sl,e=.returned (.agg #[decide (ae a b x z<0),sl])/\aZ w' w sl (ae a b x z)/\Below w w w':=by
 obtain ⟨ax,cx,rfl,-,-⟩:=aF.view hox;obtain ⟨az,cz,rfl,-,-⟩:=aF.view JD;have hq1:Wh.sz a 1000:=aL (be ω ω) ω;have hq2:Wh.sz b 1000:=aL (be ω ω) ω;have hq3:Wh.sz 4 1000:=aL (be ω ω) ω
 have mm:∀ (l:List Int),(∀ y ∈ l,Wh.sz y 1000)->l.length<=5->∀ k,Wh.small ((l.take k).foldl (·*·) 1):=fun l h hl k=>ce (aL (kk h k) (show 1+l.length*1000<=8000 by omega)) ω
 have mp:∀ (l:List Int),(∀ y ∈ l,Wh.sz y 1000)->l.length<=4->Wh.sz (l.foldl (·*·) 1) 4001:=fun l h hl=>by have:=kk h l.length;rw [List.take_length] at this;exact aL this ω
 have m0:∀ (l:List Int),(∀ y ∈ l,Wh.sz y 1000)->∀ y ∈ l,Wh.small y:=fun l h y hy=>ce (h y hy) ω
 have m1:∀ y ∈ ([x,x,x]:List Int),Wh.sz y 1000:=by intro y h;simp only [List.mem_cons,List.not_mem_nil,or_false] at h;rcases h with h | h | h <;> (subst h;assumption)
 have R1:=fun g cap W (h:cH W g [x,x,x])=>bi [x,x,x] g cap W h σ (m0 _ m1) (mm _ m1 σ)
 have p1:=mp _ m1 σ
 have m2:∀ y ∈ ([a,x,z,z]:List Int),Wh.sz y 1000:=by intro y h;simp only [List.mem_cons,List.not_mem_nil,or_false] at h;rcases h with h | h | h | h <;> (subst h;assumption)
 have R2:=fun g cap W (h:cH W g [a,x,z,z])=>bi [a,x,z,z] g cap W h σ (m0 _ m2) (mm _ m2 σ)
 have p2:=mp _ m2 σ
 have m3:∀ y ∈ ([b,z,z,z]:List Int),Wh.sz y 1000:=by intro y h;simp only [List.mem_cons,List.not_mem_nil,or_false] at h;rcases h with h | h | h | h <;> (subst h;assumption)
 have R3:=fun g cap W (h:cH W g [b,z,z,z])=>bi [b,z,z,z] g cap W h σ (m0 _ m3) (mm _ m3 σ)
 have p3:=mp _ m3 σ;have hT:=xm a b x z;generalize hp1:([x,x,x]:List Int).foldl (·*·) 1=Li at *;generalize hp2:([a,x,z,z]:List Int).foldl (·*·) 1=Lj at *;generalize hp3:([b,z,z,z]:List Int).foldl (·*·) 1=Lk at *
 have ms:∀ y ∈ [Li,Lj,Lk],Wh.sz y 4001:=by intro y h;simp only [List.mem_cons,List.not_mem_nil,or_false] at h;rcases h with h | h | h <;> (subst h;assumption)
 have R5:=fun g cap W (h:cH W g [Li,Lj,Lk])=>mF [Li,Lj,Lk] g cap W h σ (fun y hy=>ce (ms y hy) ω) (fun k=>ce (aL (rj ms ω k) (show 4001+3<=7000 by omega)) ω)
 have Xb:=rj ms ω 3;rw [show ([Li,Lj,Lk]:List Int).take 3=[Li,Lj,Lk] from rfl] at Xb;generalize LO:([Li,Lj,Lk]:List Int).foldl (·+·) 0=Qj at *;have Xc:Wh.sz Qj 4004:=Xb
 have R6:=fun g cap W (h:cH W g [4,z,Qj])=>bi [4,z,Qj] g cap W h σ (by
  intro y h;simp only [List.mem_cons,List.not_mem_nil,or_false] at h;rcases h with h | h | h
  ·subst h;exact ce hq3 ω
  ·subst h;exact ce hz ω
  ·subst h;exact ce Xc ω) (fun k=>by
  have y0:=Cf;have y1:=ah y0 hq3;have y2:=ah y1 hz;have y3:=ah y2 Xc
  match k with
  | 0=>exact ce y0 ω
  | 1=>exact ce y1 ω
  | 2=>exact ce y2 ω
  | k+3=>rw [List.take_of_length_le σ];exact ce y3 ω)
 rw [hT] at R6
 have N1:=fun W=>br a W ω ω
 have N2:=fun W=>br b W ω ω
 have N3:=fun W=>br 4 W ω ω
 clear m1 m2 m3 p1 p2 p3 hp1 hp2 hp3 ms mm mp m0 hT LO Xb Xc;replace R1:=IU R1;replace R2:=IU R2;replace R3:=IU R3;replace R5:=IU R5;replace R6:=IU R6;replace N1:=IU N1;replace N2:=IU N2;replace N3:=IU N3;generalize hF:ae a b x z=F at *;generalize hs1:decide (x<0)=s1 at *;replace hs1:=IU hs1.symm;generalize hs2:decide (z<0)=s2 at *;replace hs2:=IU hs2.symm;replace hox:=IU (show aF _ _ _ _ from hox);replace JD:=IU (show aF _ _ _ _ from JD);generalize (Wh.a_ z.natAbs).length=lz,(Wh.a_ x.natAbs).length=lx at *;obtain ⟨w3,hw3,b1,b2,b3,hB⟩:=dB w #[a,b] 25 #[s1,.slice ax lx cx,s2,.slice az lz cz] 174 #[false,.slice none 0 0] 116;have LM:=IU (aF.below hox.out hB);have LN:=IU (aF.below JD.out hB)
 have hz3:w3.heap.size=w.heap.size+3:=by rw [←hw3,IV,gy]
 clear hox JD;have e0:=b2.aK.c0;have e1:=b2.aK.c1;have e2:=b2.aK.c2;have e3:=b2.aK.c3;go_enter func167,ntmps167
 go_wp2
 go_upto_region 1 with fail
 go_cut [5,6] (fun p q wx=>∃ gx gz,w.heap.size+3<=gx/\w.heap.size+3<=gz/\p=.pointer (some ⟨gx,0,none⟩)/\q=.pointer (some ⟨gz,0,none⟩)/\aG wx gx 116 #[s1,.slice ax lx cx]/\aG wx gz 116 #[s2,.slice az lz cz]/\Below (w.heap.size+3) w3 wx)
 case first=>
  go_region
  all_goals
   go_wp2_with fail
   go_meet
   first
   | exact (uK _ _ hz3 _ _ _ _ _).1
   | exact (uK _ _ hz3 _ _ _ _ _).2
 case rest=>
 obtain ⟨gx,gz,hgx,hgz,rfl,rfl,X,Z,hbx⟩:=hcut;rw [←hz3] at hbx;have ox:=IU (aF.below LM.out hbx);have oz:=IU (aF.below LN.out hbx);have C:=b1.keep hbx;have R:=b3.keep hbx;have hw:=j_ hB hbx
 have Lg:w.heap.size+3<=wc.heap.size:=by have:=hbx.size;omega
 clear hz3
 go_upto_region 2 with fail
 refine b8 24 [.is (.agg #[s1,.slice ax lx cx]),.is (.agg #[s1,.slice ax lx cx]),.is (.agg #[s1,.slice ax lx cx]),.at (cQ (wc.heap.size) [x,x,x]),.at (aI (wc.heap.size) (Li)),.is (.pointer (some ⟨w,0,none⟩)),.is a,.at (aI (wc.heap.size) (a)),.is (.agg #[s1,.slice ax lx cx]),.is (.agg #[s2,.slice az lz cz]),.is (.agg #[s2,.slice az lz cz]),.at (cQ (wc.heap.size) [a,x,z,z]),.at (aI (wc.heap.size) (Lj)),.is (.pointer (some ⟨w,1,none⟩)),.is b,.at (aI (wc.heap.size) (b)),.is (.agg #[s2,.slice az lz cz]),.is (.agg #[s2,.slice az lz cz]),.is (.agg #[s2,.slice az lz cz]),.at (cQ (wc.heap.size) [b,z,z,z]),.at (aI (wc.heap.size) (Lk)),.at (cQ (wc.heap.size) [Li,Lj,Lk]),.at (aI (wc.heap.size) (Qj)),.new (wc.heap.size) 116 #[false,.slice none 0 0]] κ κ κ ⟨?_,?_,?_,?_,?_,?_,?_,?_,?_,?_,?_,?_,?_,?_,?_,?_,?_,?_,?_,?_,?_,?_,?_,?_,fun h_=>absurd h_ δ,trivial⟩ ?_
 all_goals try ((refine Rg.b1 ?_;intro zZ w_ hB e);have kz:=aE hB X.box.c0;have kz:=aE hB X.box.c1;have kz:=aE hB C.box.c0;have kz:=aE hB Z.box.c0;have kz:=aE hB Z.box.c1;have kz:=aE hB C.box.c1;(go_simp;done))
 ·intro _ zZ w_ hB hr
  have e12:=Rg.t_ (hr 12 δ);have e13:=Rg.t_ (hr 13 δ);have e14:=Rg.t_ (hr 14 δ);refine oO rfl (x:=.slice (some ⟨w_,0,none⟩) 3 3) (ob:=.cells (List.toArray [.bool s1,.slice ax lx cx,.bool s1,.slice ax lx cx,.bool s1,.slice ax lx cx]) 116) (by first | (go_simp;done) | (go_simp;exact ⟨rfl,rfl⟩) | (go_simp;rfl)) (cQ.at (by have:=hB.size;omega) ?_ rfl);exact bk.cons hs1.out (aF.below ox.out hB) (bk.cons hs1.out (aF.below ox.out hB) (bk.cons hs1.out (aF.below ox.out hB) (bk.nil)))
 ·intro _ zZ w_ hB hr
  obtain ⟨v15,e15,n15⟩:∃ v,zZ.tmps[15]?=some v/\(Rg.Val.at (cQ (wc.heap.size) [x,x,x])).ok v w_:=hr 15 δ;obtain ⟨g15,rfl,Oq⟩:=cE n15;have ef:=Rg.ef zZ;refine af rfl τ ?_;exact aI.ret hB (R1.out _ _ _ Oq)
 ·refine Rg.o1 ?_;intro zZ w_ hB e
  have ef:=Rg.ef zZ;refine af rfl τ ?_;exact aI.ret hB (N1.out _)
 ·intro _ zZ w_ hB hr
  obtain ⟨Mf,M4,MU,c19,Kc,e19,RK⟩:=aI.get (hr 19 δ);have e20:=Rg.t_ (hr 20 δ);have e21:=Rg.t_ (hr 21 δ);have e22:=Rg.t_ (hr 22 δ);refine oO rfl (x:=.slice (some ⟨w_,0,none⟩) 4 4) (ob:=.cells (List.toArray [.bool Mf,.slice M4 MU c19,.bool s1,.slice ax lx cx,.bool s2,.slice az lz cz,.bool s2,.slice az lz cz]) 116) (by first | (go_simp;done) | (go_simp;exact ⟨rfl,rfl⟩) | (go_simp;rfl)) (cQ.at (by have:=hB.size;omega) ?_ rfl);exact bk.cons Kc.out RK (bk.cons hs1.out (aF.below ox.out hB) (bk.cons hs2.out (aF.below oz.out hB) (bk.cons hs2.out (aF.below oz.out hB) (bk.nil))))
 ·intro _ zZ w_ hB hr
  obtain ⟨v23,e23,n23⟩:∃ v,zZ.tmps[23]?=some v/\(Rg.Val.at (cQ (wc.heap.size) [a,x,z,z])).ok v w_:=hr 23 δ;obtain ⟨g23,rfl,Qf⟩:=cE n23;have ef:=Rg.ef zZ;refine af rfl τ ?_;exact aI.ret hB (R2.out _ _ _ Qf)
 ·refine Rg.o1 ?_;intro zZ w_ hB e
  have ef:=Rg.ef zZ;refine af rfl τ ?_;exact aI.ret hB (N2.out _)
 ·intro _ zZ w_ hB hr
  obtain ⟨Qn,a27,Qd,Ph,QR,e27,Tv⟩:=aI.get (hr 27 δ);have e28:=Rg.t_ (hr 28 δ);have e29:=Rg.t_ (hr 29 δ);have e30:=Rg.t_ (hr 30 δ);refine oO rfl (x:=.slice (some ⟨w_,0,none⟩) 4 4) (ob:=.cells (List.toArray [.bool Qn,.slice a27 Qd Ph,.bool s2,.slice az lz cz,.bool s2,.slice az lz cz,.bool s2,.slice az lz cz]) 116) (by first | (go_simp;done) | (go_simp;exact ⟨rfl,rfl⟩) | (go_simp;rfl)) (cQ.at (by have:=hB.size;omega) ?_ rfl);exact bk.cons QR.out Tv (bk.cons hs2.out (aF.below oz.out hB) (bk.cons hs2.out (aF.below oz.out hB) (bk.cons hs2.out (aF.below oz.out hB) (bk.nil))))
 ·intro _ zZ w_ hB hr
  obtain ⟨v31,e31,n31⟩:∃ v,zZ.tmps[31]?=some v/\(Rg.Val.at (cQ (wc.heap.size) [b,z,z,z])).ok v w_:=hr 31 δ;obtain ⟨g31,rfl,YX⟩:=cE n31;have ef:=Rg.ef zZ;refine af rfl τ ?_;exact aI.ret hB (R3.out _ _ _ YX)
 ·intro _ zZ w_ hB hr
  obtain ⟨s16,a16,L_,c16,Kb,e16,o16⟩:=aI.get (hr 16 δ);obtain ⟨s24,a24,Nb,c24,Md,e24,RL⟩:=aI.get (hr 24 δ);obtain ⟨s32,a32,l32,c32,QS,e32,o32⟩:=aI.get (hr 32 δ);refine oO rfl (x:=.slice (some ⟨w_,0,none⟩) 3 3) (ob:=.cells (List.toArray [.bool s16,.slice a16 L_ c16,.bool s24,.slice a24 Nb c24,.bool s32,.slice a32 l32 c32]) 116) (by first | (go_simp;done) | (go_simp;exact ⟨rfl,rfl⟩) | (go_simp;rfl)) (cQ.at (by have:=hB.size;omega) ?_ rfl);exact bk.cons Kb.out o16 (bk.cons Md.out RL (bk.cons QS.out o32 (bk.nil)))
 ·intro _ zZ w_ hB hr
  obtain ⟨v33,e33,n33⟩:∃ v,zZ.tmps[33]?=some v/\(Rg.Val.at (cQ (wc.heap.size) [Li,Lj,Lk])).ok v w_:=hr 33 δ;obtain ⟨g33,rfl,Qg⟩:=cE n33;have ef:=Rg.ef zZ;refine af rfl τ ?_;exact aI.ret hB (R5.out _ _ _ Qg)
 ·intro _ zZ w_ hB hr
  exact ⟨by have:=hB.size;omega,rfl,by first | (go_simp;done) | (go_simp;rfl)⟩
 intro vals wz hB hv hne;have n7:(Rg.Val.new (wc.heap.size) 116 #[false,.slice none 0 0]).ok (vals 23) wz:=hv 23 δ;have n34:(Rg.Val.at (aI (wc.heap.size) (Qj))).ok (vals 22) wz:=hv 22 δ;simp only [bD,Rg.fill,Act.put,Nat.reduceAdd];obtain ⟨g7,Og,OY,o7⟩:=n7;replace o7:aG wz g7 116 #[false,.slice none 0 0]:=o7;obtain ⟨RO,a34,RI,c34,Xp,MI,o34⟩:=(cE n34).view;simp only [OY,MI];have hB2:Below wc wc ((wz.setCell ⟨g7,0,none⟩ (.bool RO)).setCell ⟨g7,1,none⟩ (.slice a34 RI c34)):=IW (IW hB Og _) Og _;have D:=aG.set2 o7 (.bool RO) (.slice a34 RI c34);have oD:=IU (aF.bQ o34 o7 δ (.bool RO) (.slice a34 RI c34));have ⟨c0,c1,f0,f1,_⟩:=o7.box;unfold aV aV Oper.wp;go_simp
 clear c0 c1 f0 f1 o7 o34;generalize ((wz.setCell ⟨g7,0,none⟩ (.bool RO)).setCell ⟨g7,1,none⟩ (.slice a34 RI c34))=wd at *;replace ⟨Z,R⟩:=Im hB2 Z R;replace oz:=IU (aF.below oz.out hB2);replace hw:=j_ hw hB2;have Me:wc.heap.size<=wd.heap.size:=hB2.size
 go_upto_region 3 with fail
 clear hB2;refine b8 5 [.at (aI (wd.heap.size) (4)),.is (.agg #[s2,.slice az lz cz]),.is (.agg #[RO,.slice a34 RI c34]),.at (cQ (wd.heap.size) [4,z,Qj]),.at (aI (wd.heap.size) (F))] κ κ κ ⟨?_,?_,?_,?_,?_,fun h_=>absurd h_ δ,trivial⟩ ?_
 all_goals try ((refine Rg.b1 ?_;intro zZ w_ hB e);have kz:=aE hB Z.box.c0;have kz:=aE hB Z.box.c1;have kz:=aE hB D.box.c0;have kz:=aE hB D.box.c1;(go_simp;done))
 ·refine Rg.o0 ?_;intro zZ w_ hB
  have ec:=Rg.ec zZ;have ef:=Rg.ef zZ;refine af rfl τ ?_;exact aI.ret hB (N3.out _)
 ·intro _ zZ w_ hB hr
  obtain ⟨s35,a35,l35,c35,Xq,e35,YY⟩:=aI.get (hr 35 δ);have e36:=Rg.t_ (hr 36 δ);have e37:=Rg.t_ (hr 37 δ);refine oO rfl (x:=.slice (some ⟨w_,0,none⟩) 3 3) (ob:=.cells (List.toArray [.bool s35,.slice a35 l35 c35,.bool s2,.slice az lz cz,.bool RO,.slice a34 RI c34]) 116) (by first | (go_simp;done) | (go_simp;exact ⟨rfl,rfl⟩) | (go_simp;rfl)) (cQ.at (by have:=hB.size;omega) ?_ rfl);exact bk.cons Xq.out YY (bk.cons hs2.out (aF.below oz.out hB) (bk.cons Xp.out (aF.below oD.out hB) (bk.nil)))
 ·intro _ zZ w_ hB hr
  obtain ⟨v38,e38,n38⟩:∃ v,zZ.tmps[38]?=some v/\(Rg.Val.at (cQ (wd.heap.size) [4,z,Qj])).ok v w_:=hr 38 δ;obtain ⟨g38,rfl,YZ⟩:=cE n38;have ef:=Rg.ef zZ;refine af rfl τ ?_;exact aI.ret hB (R6.out _ _ _ YZ)
 intro vals wy hB4 hv hne;have n39:(Rg.Val.at (aI (wd.heap.size) (F))).ok (vals 4) wy:=hv 4 δ;simp only [bD,Rg.fill,Act.put,Nat.reduceAdd];obtain ⟨Ye,a39,YP,Wj,Xu,Mm,o39⟩:=(cE n39).view;simp only [Mm];have R2:=R.keep hB4;have ⟨c0,c1,f0,f1,_⟩:=R2.box;have hr1:=aF.base (aF.bQ o39 R2 δ (.bool Ye) (.slice a39 YP Wj)) (show w.heap.size<=wd.heap.size from hw.size);have hr2:Below w w ((wy.setCell ⟨w.heap.size+1+1,0,none⟩ (.bool Ye)).setCell ⟨w.heap.size+1+1,1,none⟩ (.slice a39 YP Wj)):=IW (IW (j_ hw hB4) (by simp <;> omega) _) (by simp <;> omega) _;unfold aV aV Oper.wp;go_simp
 go_wp2;exact D_ (v:=.agg #[Ye,.slice a39 YP Wj]) results167 ⟨_,by rw [Xu.out],hr1,hr2⟩
theorem pF (a b x z:Int) (vx vz:Value) (w:World) (bx bz:Nat) (hox:aZ w bx vx x) (JD:aZ w bz vz z) (hx:Wh.sz x 1000) (hz:Wh.sz z 1000) (ha1:-1000<=a) (ha2:a<=1000) (hb1:-10000<=b) (hb2:b<=10000) :
  Calls prog 173 #[.agg #[a,b],.agg #[decide (x<0),vx,decide (z<0),vz]] w fun e w'=>∃ sl,e=.returned (.agg #[decide (ae a b x z<0),sl])/\aZ w' w sl (ae a b x z)/\Below w w w':=by
 obtain ⟨ax,cx,rfl,-,-⟩:=aF.view hox;obtain ⟨az,cz,rfl,-,-⟩:=aF.view JD;have m1:=ah hx hx;have m0:=ah hz hz;have m2:=ah m1 hx;have m3:=ah hx m0;have m4:=ah m3 (be (n:=a) ω ω);have m5:=jI (aL m2 (show 1000+1000+1000<=4000 by omega)) (aL m4 (show _<=4000 by omega));have m6:=ah hz m0;have m7:=ah m6 (be (n:=b) ω ω);have m8:=jI (aL m5 (show 4000+1<=4100 by omega)) (aL m7 (show _<=4100 by omega));have m9:=ah hz m8
 have P0:=fun v W k (h:aF W k v (Wh.a_ (z).natAbs))=>er (z) v W k h (aR.2 (aL hz ω))
 have P1:=fun v W k (h:aF W k v (Wh.a_ (x).natAbs))=>er (x) v W k h (aR.2 (aL hx ω))
 have P2:=fun v v' W k k' (h:aF W k v (Wh.a_ (x*x).natAbs)) (h':aF W k' v' (Wh.a_ (x).natAbs))=>fR (x*x) (x) v v' W k k' h h' (aR.2 (aL m1 ω)) (aR.2 (aL hx ω))
 have P3:=fun v v' W k k' (h:aF W k v (Wh.a_ (x).natAbs)) (h':aF W k' v' (Wh.a_ (z*z).natAbs))=>fR (x) (z*z) v v' W k k' h h' (aR.2 (aL hx ω)) (aR.2 (aL m0 ω))
 have P4:=fun v W k (h:aF W k v (Wh.a_ (x*(z*z)).natAbs))=>fW (x*(z*z)) (a) v W k h (aR.2 (aL m3 ω)) ω ω
 have P5:=fun v v' W k k' (h:aF W k v (Wh.a_ (x*x*x).natAbs)) (h':aF W k' v' (Wh.a_ (x*(z*z)*a).natAbs))=>mN (x*x*x) (x*(z*z)*a) v v' W k k' h h' (aR.2 (aL m2 ω)) (aR.2 (aL m4 ω))
 have P6:=fun v v' W k k' (h:aF W k v (Wh.a_ (z).natAbs)) (h':aF W k' v' (Wh.a_ (z*z).natAbs))=>fR (z) (z*z) v v' W k k' h h' (aR.2 (aL hz ω)) (aR.2 (aL m0 ω))
 have P7:=fun v W k (h:aF W k v (Wh.a_ (z*(z*z)).natAbs))=>fW (z*(z*z)) (b) v W k h (aR.2 (aL m6 ω)) ω ω
 have P8:=fun v v' W k k' (h:aF W k v (Wh.a_ (x*x*x+x*(z*z)*a).natAbs)) (h':aF W k' v' (Wh.a_ (z*(z*z)*b).natAbs))=>mN (x*x*x+x*(z*z)*a) (z*(z*z)*b) v v' W k k' h h' (aR.2 (aL m5 ω)) (aR.2 (aL m7 ω))
 have P9:=fun v v' W k k' (h:aF W k v (Wh.a_ (z).natAbs)) (h':aF W k' v' (Wh.a_ (x*x*x+x*(z*z)*a+z*(z*z)*b).natAbs))=>fR (z) (x*x*x+x*(z*z)*a+z*(z*z)*b) v v' W k k' h h' (aR.2 (aL hz ω)) (aR.2 (aL m8 ω))
 have PA:=fun v W k (h:aF W k v (Wh.a_ (z*(x*x*x+x*(z*z)*a+z*(z*z)*b)).natAbs))=>fW (z*(x*x*x+x*(z*z)*a+z*(z*z)*b)) (4) v W k h (aR.2 (aL m9 ω)) ω ω
 have hT:=sU a b x z;rw [hT] at PA;clear hT m1 m0 m2 m3 m4 m5 m6 m7 m8 m9;generalize ae a b x z=F at *;generalize SB:x*x*x+x*(z*z)*a+z*(z*z)*b=S2 at *;generalize SA:x*x*x+x*(z*z)*a=S1 at *;generalize W3:z*(z*z)*b=zb at *;generalize W4:z*(z*z)=zc at *;generalize Wz:x*(z*z)*a=xa at *;generalize W2:x*(z*z)=xz at *;generalize W1:x*x*x=xc at *;generalize SC:x*x=xq at *;generalize SD:z*z=zq at *;generalize hGg:z*S2=zs2 at *;clear SB SA W3 W4 Wz W2 W1 SC SD hGg;replace P0:=IU P0;replace P1:=IU P1;replace P2:=IU P2;replace P3:=IU P3;replace P4:=IU P4;replace P5:=IU P5;replace P6:=IU P6;replace P7:=IU P7;replace P8:=IU P8;replace P9:=IU P9;replace PA:=IU PA;generalize hs1:decide (x<0)=s1 at *;replace hs1:=IU hs1.symm;generalize hs2:decide (z<0)=s2 at *;replace hs2:=IU hs2.symm;replace hox:=IU (show aF _ _ _ _ from hox);replace JD:=IU (show aF _ _ _ _ from JD);generalize (Wh.a_ z.natAbs).length=lz,(Wh.a_ x.natAbs).length=lx at *;obtain ⟨w3,hw3,b1,b2,b3,hB⟩:=dB w #[a,b] 25 #[s1,.slice ax lx cx,s2,.slice az lz cz] 174 #[false,.slice none 0 0] 116;have LM:=IU (aF.below hox.out hB);have LN:=IU (aF.below JD.out hB)
 have hz3:w3.heap.size=w.heap.size+3:=by rw [←hw3,IV,gy]
 clear hox JD;have e0:=b2.aK.c0;have e1:=b2.aK.c1;have e2:=b2.aK.c2;have e3:=b2.aK.c3;go_enter func173,ntmps173
 go_wp2
 go_upto_region 1 with fail
 go_cut [5,6] (fun p q wx=>∃ gx gz,w.heap.size+3<=gx/\w.heap.size+3<=gz/\p=.pointer (some ⟨gx,0,none⟩)/\q=.pointer (some ⟨gz,0,none⟩)/\aG wx gx 116 #[s1,.slice ax lx cx]/\aG wx gz 116 #[s2,.slice az lz cz]/\Below (w.heap.size+3) w3 wx)
 case first=>
  go_region
  all_goals
   go_wp2_with fail
   go_meet
   first
   | exact (uK _ _ hz3 _ _ _ _ _).1
   | exact (uK _ _ hz3 _ _ _ _ _).2
 case rest=>
 obtain ⟨gx,gz,hgx,hgz,rfl,rfl,X,Z,hbx⟩:=hcut;rw [←hz3] at hbx;have ox:=IU (aF.below LM.out hbx);have oz:=IU (aF.below LN.out hbx);have C:=b1.keep hbx;have R:=b3.keep hbx;have hw:=j_ hB hbx
 have Lg:w.heap.size+3<=wc.heap.size:=by have:=hbx.size;omega
 clear hz3;clear b1 b2 b3 e0 e1 e2 e3 hB hbx LM LN;have z0:=Z.box.c0;have z1:=Z.box.c1
 go_wp2_with (go_at_call 187;(with_reducible refine (P0.out _ _ _ oz.out).mono ?_);rintro e w4 ⟨v3,rfl,ho3,hb4⟩;obtain ⟨a3,k3,rfl,Th,hv3⟩:=aF.view ho3;clear Th hv3 z0 z1)
 have Ji:wc.heap.size<=w4.heap.size:=hb4.size;generalize (Wh.a_ zq.natAbs).length=l3 at *;generalize hs3:decide (zq<0)=s3 at *;replace hs3:=IU hs3.symm;have o3:=IU (aF.alloc (show aF _ _ _ _ from ho3) (.cells #[s3,.slice a3 l3 k3] 116));clear ho3;have T:=aG.new w4 #[s3,.slice a3 l3 k3] 116;have hB2:Below wc wc (w4.alloc (.cells #[s3,.slice a3 l3 k3] 116)):=hb4.alloc Ji (.cells #[s3,.slice a3 l3 k3] 116);have Og:wc.heap.size<=w4.heap.size:=Ji;have SK:gz<wc.heap.size:=Z.lt
 go_upto_region 3 with fail
 generalize w4.alloc (.cells #[s3,.slice a3 l3 k3] 116)=wd at *;replace ⟨X,Z,C,R⟩:=Ip hB2 X Z C R;replace ox:=IU (aF.below ox.out hB2);replace oz:=IU (aF.below oz.out hB2);replace hw:=j_ hw hB2;have Me:wc.heap.size<=wd.heap.size:=hB2.size
 replace SK:gz<wd.heap.size:=ω
 replace Lg:w.heap.size+3<=wd.heap.size:=ω
 clear hB2 hb4;refine b8 12 [.is (.agg #[s1,.slice ax lx cx]),.at (aI (wd.heap.size) (xq)),.is (.agg #[s1,.slice ax lx cx]),.at (aI (wd.heap.size) (xc)),.is (.agg #[s1,.slice ax lx cx]),.is (.agg #[s3,.slice a3 l3 k3]),.at (aI (wd.heap.size) (xz)),.is (.pointer (some ⟨w,0,none⟩)),.is a,.at (aI (wd.heap.size) (xa)),.at (aI (wd.heap.size) (S1)),.new (wd.heap.size) 116 #[false,.slice none 0 0]] κ κ κ ⟨?_,?_,?_,?_,?_,?_,?_,?_,?_,?_,?_,?_,fun h_=>absurd h_ δ,trivial⟩ ?_
 all_goals try ((refine Rg.b1 ?_;intro zZ w_ hB e);have kz:=aE hB X.box.c0;have kz:=aE hB X.box.c1;have kz:=aE hB T.box.c0;have kz:=aE hB T.box.c1;have kz:=aE hB C.box.c0;(go_simp;done))
 ·refine Rg.o1 ?_;intro zZ w_ hB e
  have ef:=Rg.ef zZ;refine af rfl τ ?_;exact aI.ret hB (P1.out _ _ _ (aF.below ox.out hB))
 ·intro _ zZ w_ hB hr
  obtain ⟨s16,a16,L_,c16,Kb,e16,o16⟩:=aI.get (hr 16 δ);have e17:=Rg.t_ (hr 17 δ);have ef:=Rg.ef zZ;refine af rfl τ ?_;obtain rfl:=Kb.out;exact aI.ret hB (P2.out _ _ _ _ _ o16 (aF.below ox.out hB))
 ·intro _ zZ w_ hB hr
  have e19:=Rg.t_ (hr 19 δ);have e20:=Rg.t_ (hr 20 δ);have ef:=Rg.ef zZ;refine af rfl τ ?_;exact aI.ret hB (P3.out _ _ _ _ _ (aF.below ox.out hB) (aF.below o3.out hB))
 ·intro _ zZ w_ hB hr
  obtain ⟨s21,a21,l21,c21,Xi,e21,o21⟩:=aI.get (hr 21 δ);have e23:=Rg.t_ (hr 23 δ);have ef:=Rg.ef zZ;refine af rfl τ ?_;obtain rfl:=Xi.out;exact aI.ret hB (P4.out _ _ _ o21)
 ·intro _ zZ w_ hB hr
  obtain ⟨s18,a18,l18,c18,QP,e18,YV⟩:=aI.get (hr 18 δ);obtain ⟨s24,a24,Nb,c24,Md,e24,RL⟩:=aI.get (hr 24 δ);have ef:=Rg.ef zZ;refine af rfl τ ?_;obtain rfl:=QP.out;obtain rfl:=Md.out;exact aI.ret hB (P5.out _ _ _ _ _ YV RL)
 ·intro _ zZ w_ hB hr
  exact ⟨by have:=hB.size;omega,rfl,by first | (go_simp;done) | (go_simp;rfl)⟩
 intro vals wz hB hv hne;have n8:(Rg.Val.new (wd.heap.size) 116 #[false,.slice none 0 0]).ok (vals 11) wz:=hv 11 δ;have n25:(Rg.Val.at (aI (wd.heap.size) (S1))).ok (vals 10) wz:=hv 10 δ;simp only [bD,Rg.fill,Act.put,Nat.reduceAdd];clear hv;obtain ⟨g8,QE,KF,o8⟩:=n8;replace o8:aG wz g8 116 #[false,.slice none 0 0]:=o8;obtain ⟨Sz,a25,Sq,Rv,Xl,JJ,Tu⟩:=(cE n25).view;simp only [KF,JJ];clear KF JJ;have hB2:Below wd wd ((wz.setCell ⟨g8,0,none⟩ (.bool Sz)).setCell ⟨g8,1,none⟩ (.slice a25 Sq Rv)):=IW (IW hB QE _) QE _;have U:=aG.set2 o8 (.bool Sz) (.slice a25 Sq Rv);have oU:=IU (aF.bQ Tu o8 δ (.bool Sz) (.slice a25 Sq Rv));have ⟨c0,c1,f0,f1,_⟩:=o8.box;unfold aV aV Oper.wp;go_simp
 clear c0 c1 f0 f1 o8 Tu;generalize ((wz.setCell ⟨g8,0,none⟩ (.bool Sz)).setCell ⟨g8,1,none⟩ (.slice a25 Sq Rv))=we at *;replace ⟨Z,C,R,T⟩:=Ip hB2 Z C R T;replace oz:=IU (aF.below oz.out hB2);replace o3:=IU (aF.below o3.out hB2);replace hw:=j_ hw hB2;have Me:wd.heap.size<=we.heap.size:=hB2.size
 go_upto_region 4 with fail
 clear hB2 hB;refine b8 8 [.is (.agg #[Sz,.slice a25 Sq Rv]),.is (.agg #[s2,.slice az lz cz]),.is (.agg #[s3,.slice a3 l3 k3]),.at (aI (we.heap.size) (zc)),.is (.pointer (some ⟨w,1,none⟩)),.is b,.at (aI (we.heap.size) (zb)),.at (aI (we.heap.size) (S2))] κ κ κ ⟨?_,?_,?_,?_,?_,?_,?_,?_,fun h_=>absurd h_ δ,trivial⟩ ?_
 all_goals try ((refine Rg.b1 ?_;intro zZ w_ hB e);have kz:=aE hB U.box.c0;have kz:=aE hB U.box.c1;have kz:=aE hB Z.box.c0;have kz:=aE hB Z.box.c1;have kz:=aE hB T.box.c0;have kz:=aE hB T.box.c1;have kz:=aE hB C.box.c1;(go_simp;done))
 ·intro _ zZ w_ hB hr
  have e27:=Rg.t_ (hr 27 δ);have e28:=Rg.t_ (hr 28 δ);have ef:=Rg.ef zZ;refine af rfl τ ?_;exact aI.ret hB (P6.out _ _ _ _ _ (aF.below oz.out hB) (aF.below o3.out hB))
 ·intro _ zZ w_ hB hr
  obtain ⟨s29,a29,l29,c29,Xm,e29,o29⟩:=aI.get (hr 29 δ);have e31:=Rg.t_ (hr 31 δ);have ef:=Rg.ef zZ;refine af rfl τ ?_;obtain rfl:=Xm.out;exact aI.ret hB (P7.out _ _ _ o29)
 ·intro _ zZ w_ hB hr
  have e26:=Rg.t_ (hr 26 δ);obtain ⟨s32,a32,l32,c32,QS,e32,o32⟩:=aI.get (hr 32 δ);have ef:=Rg.ef zZ;refine af rfl τ ?_;obtain rfl:=QS.out;rw [Xl.out];exact aI.ret hB (P8.out _ _ _ _ _ (aF.below oU.out hB) o32)
 intro vals wy hB hv hne;have n33:(Rg.Val.at (aI (we.heap.size) (S2))).ok (vals 7) wy:=hv 7 δ;simp only [bD,Rg.fill,Act.put,Nat.reduceAdd];clear hv;obtain ⟨ON,a33,OH,Ns,NH,Kj,Qg⟩:=(cE n33).view;simp only [Kj];clear Kj;have U2:=U.keep hB;have hB2:Below wd we ((wy.setCell ⟨g8,0,none⟩ (.bool ON)).setCell ⟨g8,1,none⟩ (.slice a33 OH Ns)):=IW (IW (hB.mono Me) QE _) QE _;have oS:=IU (aF.bQ Qg U2 δ (.bool ON) (.slice a33 OH Ns));have U3:=aG.set2 U2 (.bool ON) (.slice a33 OH Ns)
 have hgz9:gz<wd.heap.size/\w.heap.size+1+1<wd.heap.size:=⟨SK,by have:=Lg;omega⟩
 have Z5:aG ((wy.setCell ⟨g8,0,none⟩ (.bool ON)).setCell ⟨g8,1,none⟩ (.slice a33 OH Ns)) gz 116 #[s2,.slice az lz cz]:=((Z.keep hB).other ω _).other ω _;have R5:aG ((wy.setCell ⟨g8,0,none⟩ (.bool ON)).setCell ⟨g8,1,none⟩ (.slice a33 OH Ns)) (w.heap.size+1+1) 116 #[false,.slice none 0 0]:=((R.keep hB).other ω _).other ω _;have oz5:=IU (aF.bQ (aF.below oz.out hB) U2 δ (.bool ON) (.slice a33 OH Ns));have RG:=hw.trans (hB2.mono (show w.heap.size<=wd.heap.size by omega));have ⟨c0,c1,f0,f1,_⟩:=U2.box;unfold aV aV Oper.wp;go_simp
 clear c0 c1 f0 f1 U2;generalize ((wy.setCell ⟨g8,0,none⟩ (.bool ON)).setCell ⟨g8,1,none⟩ (.slice a33 OH Ns))=wf at *;have y0:=Z5.box.c0;have y1:=Z5.box.c1;have y2:=U3.box.c0;have y3:=U3.box.c1;obtain rfl:=NH.out
 go_wp2_with (first | (go_at_call 189;(with_reducible refine (P9.out _ _ _ _ _ oz5.out oS.out).mono ?_);rintro e w6 ⟨v6,rfl,Kx,hb6⟩;obtain ⟨a6,k6,rfl,XW,hv6⟩:=aF.view Kx;clear XW hv6;have Jb:=(show aF _ _ _ _ from Kx)) | (go_at_call 190;(with_reducible refine (PA.out _ _ _ Jb).mono ?_);rintro e w7 ⟨v7,rfl,Lf,Ig⟩;obtain ⟨a7,k7,rfl,hm7,hv7⟩:=aF.view Lf;clear hm7 hv7;have R7:=(R5.keep hb6).keep Ig;(have ⟨c0,c1,f0,f1,_⟩:=R7.box)))
 generalize decide (F<0)=s7,(Wh.a_ F.natAbs).length=l7 at *;have W9:=RG.trans ((hb6.mono RG.size).trans (Ig.mono (Nat.le_trans RG.size hb6.size)));have hr1:=aF.base (aF.bQ Lf R7 δ (.bool s7) (.slice a7 l7 k7)) (show w.heap.size<=w6.heap.size from Nat.le_trans RG.size hb6.size);have hr2:Below w w ((w7.setCell ⟨w.heap.size+1+1,0,none⟩ (.bool s7)).setCell ⟨w.heap.size+1+1,1,none⟩ (.slice a7 l7 k7)):=Ml W9;exact D_ results173 ⟨_,rfl,hr1,hr2⟩
theorem Ek (a b x z:Int) (vx vz:Value) (w:World) (bx bz:Nat) (hox:aZ w bx vx x) (JD:aZ w bz vz z) (hx:Wh.sz x 1000) (hz:Wh.sz z 1000) (ha1:-1000<=a) (ha2:a<=1000) (hb1:-10000<=b) (hb2:b<=10000) :
  Calls prog 191 #[.agg #[a,b],.agg #[decide (x<0),vx,decide (z<0),vz]] w fun e w'=>∃ sl,e=.returned (.agg #[decide (ai a b x z<0),sl])/\aZ w' w sl (ai a b x z)/\Below w w w':=by
 obtain ⟨ax,cx,rfl,-,-⟩:=aF.view hox;obtain ⟨az,cz,rfl,-,-⟩:=aF.view JD;have haa:-1000000<=a*a/\a*a<=1000000:=aH (x:=a) (y:=a) (m:=1000) (n:=1000);have mx:=ah hx hx;have mz:=ah hz hz;have mxx:=ah mx mx;have mxz:=ah mx mz;have mt:=ah mxz (be (n:=2*a) ω ω);have m1:=rh (aL mxx (show 1000+1000+(1000+1000)<=4100 by omega)) (aL mt (show _<=4100 by omega));have n1:=ah hx hz;have n2:=ah n1 mz;have n3:=ah n2 (be (n:=8*b) ω ω);have m2:=rh (aL m1 (show 4100+1<=4200 by omega)) (aL n3 (show _<=4200 by omega));have mzz:=ah mz mz;have n4:=ah mzz (be (n:=a*a) ω ω)
 have P0:=fun v W k (h:aF W k v (Wh.a_ (x).natAbs))=>er (x) v W k h (aR.2 (aL hx ω))
 have P1:=fun v W k (h:aF W k v (Wh.a_ (z).natAbs))=>er (z) v W k h (aR.2 (aL hz ω))
 have P2:=fun v W k (h:aF W k v (Wh.a_ (x*x).natAbs))=>er (x*x) v W k h (aR.2 (aL mx ω))
 have P3:=fun v v' W k k' (h:aF W k v (Wh.a_ (x*x).natAbs)) (h':aF W k' v' (Wh.a_ (z*z).natAbs))=>fR (x*x) (z*z) v v' W k k' h h' (aR.2 (aL mx ω)) (aR.2 (aL mz ω))
 have P4:=fun v W k (h:aF W k v (Wh.a_ (x*x*(z*z)).natAbs))=>fW (x*x*(z*z)) (2*a) v W k h (aR.2 (aL mxz ω)) ω ω
 have P5:=fun v v' W k k' (h:aF W k v (Wh.a_ (x*x*(x*x)).natAbs)) (h':aF W k' v' (Wh.a_ (x*x*(z*z)*(2*a)).natAbs))=>qQ (x*x*(x*x)) (x*x*(z*z)*(2*a)) v v' W k k' h h' (aR.2 (aL mxx ω)) (aR.2 (aL mt ω))
 have P6:=fun v v' W k k' (h:aF W k v (Wh.a_ (x).natAbs)) (h':aF W k' v' (Wh.a_ (z).natAbs))=>fR (x) (z) v v' W k k' h h' (aR.2 (aL hx ω)) (aR.2 (aL hz ω))
 have P7:=fun v v' W k k' (h:aF W k v (Wh.a_ (x*z).natAbs)) (h':aF W k' v' (Wh.a_ (z*z).natAbs))=>fR (x*z) (z*z) v v' W k k' h h' (aR.2 (aL n1 ω)) (aR.2 (aL mz ω))
 have P8:=fun v W k (h:aF W k v (Wh.a_ (x*z*(z*z)).natAbs))=>fW (x*z*(z*z)) (8*b) v W k h (aR.2 (aL n2 ω)) ω ω
 have P9:=fun v v' W k k' (h:aF W k v (Wh.a_ (x*x*(x*x) - x*x*(z*z)*(2*a)).natAbs)) (h':aF W k' v' (Wh.a_ (x*z*(z*z)*(8*b)).natAbs))=>qQ (x*x*(x*x) - x*x*(z*z)*(2*a)) (x*z*(z*z)*(8*b)) v v' W k k' h h' (aR.2 (aL m1 ω)) (aR.2 (aL n3 ω))
 have PA:=fun v W k (h:aF W k v (Wh.a_ (z*z).natAbs))=>er (z*z) v W k h (aR.2 (aL mz ω))
 have PB:=fun v W k (h:aF W k v (Wh.a_ (z*z*(z*z)).natAbs))=>fW (z*z*(z*z)) (a*a) v W k h (aR.2 (aL mzz ω)) ω ω
 have PC:=fun v v' W k k' (h:aF W k v (Wh.a_ (x*x*(x*x) - x*x*(z*z)*(2*a) - x*z*(z*z)*(8*b)).natAbs)) (h':aF W k' v' (Wh.a_ (z*z*(z*z)*(a*a)).natAbs))=>mN (x*x*(x*x) - x*x*(z*z)*(2*a) - x*z*(z*z)*(8*b)) (z*z*(z*z)*(a*a)) v v' W k k' h h' (aR.2 (aL m2 ω)) (aR.2 (aL n4 ω))
 have hT:=uG a b x z;rw [hT] at PC;generalize ai a b x z=F at *;generalize SB:x*x*(x*x) - x*x*(z*z)*(2*a) - x*z*(z*z)*(8*b)=S2 at *;generalize SA:x*x*(x*x) - x*x*(z*z)*(2*a)=S1 at *;generalize hGyb:x*z*(z*z)*(8*b)=yb at *;generalize hGza:z*z*(z*z)*(a*a)=za at *;generalize hGxt:x*x*(z*z)*(2*a)=xt at *;generalize hGy2:x*z*(z*z)=y2 at *;generalize hGzzz:z*z*(z*z)=zzz at *;generalize hGxz2:x*x*(z*z)=xz2 at *;generalize hGxxx:x*x*(x*x)=xxx at *;generalize hGy1:x*z=y1 at *;generalize SC:x*x=xq at *;generalize SD:z*z=zq at *;replace P0:=IU P0;replace P1:=IU P1;replace P2:=IU P2;replace P3:=IU P3;replace P4:=IU P4;replace P5:=IU P5;replace P6:=IU P6;replace P7:=IU P7;replace P8:=IU P8;replace P9:=IU P9;replace PA:=IU PA;replace PB:=IU PB;replace PC:=IU PC;generalize hs1:decide (x<0)=s1 at *;replace hs1:=IU hs1.symm;generalize hs2:decide (z<0)=s2 at *;replace hs2:=IU hs2.symm;replace hox:=IU (show aF _ _ _ _ from hox);replace JD:=IU (show aF _ _ _ _ from JD);generalize (Wh.a_ z.natAbs).length=lz,(Wh.a_ x.natAbs).length=lx at *;obtain ⟨w3,hw3,b1,b2,b3,hB⟩:=dB w #[a,b] 25 #[s1,.slice ax lx cx,s2,.slice az lz cz] 174 #[false,.slice none 0 0] 116;have LM:=IU (aF.below hox.out hB);have LN:=IU (aF.below JD.out hB)
 have hz3:w3.heap.size=w.heap.size+3:=by rw [←hw3,IV,gy]
 clear hox JD;have e0:=b2.aK.c0;have e1:=b2.aK.c1;have e2:=b2.aK.c2;have e3:=b2.aK.c3;go_enter func191,ntmps191
 go_wp2
 go_upto_region 1 with fail
 go_cut [5,6] (fun p q wx=>∃ gx gz,w.heap.size+3<=gx/\w.heap.size+3<=gz/\p=.pointer (some ⟨gx,0,none⟩)/\q=.pointer (some ⟨gz,0,none⟩)/\aG wx gx 116 #[s1,.slice ax lx cx]/\aG wx gz 116 #[s2,.slice az lz cz]/\Below (w.heap.size+3) w3 wx)
 case first=>
  go_region
  all_goals
   go_wp2_with fail
   go_meet
   first
   | exact (uK _ _ hz3 _ _ _ _ _).1
   | exact (uK _ _ hz3 _ _ _ _ _).2
 case rest=>
 obtain ⟨gx,gz,hgx,hgz,rfl,rfl,X,Z,hbx⟩:=hcut;rw [←hz3] at hbx;have ox:=IU (aF.below LM.out hbx);have oz:=IU (aF.below LN.out hbx);have C:=b1.keep hbx;have R:=b3.keep hbx;have hw:=j_ hB hbx
 have Lg:w.heap.size+3<=wc.heap.size:=by have:=hbx.size;omega
 clear hz3
 go_upto_region 2 with fail
 refine b8 6 [.is (.agg #[s1,.slice ax lx cx]),.at (aI (wc.heap.size) (xq)),.is (.agg #[s2,.slice az lz cz]),.at (aI (wc.heap.size) (zq)),.new (wc.heap.size) 116 #[false,.slice none 0 0],.new (wc.heap.size) 116 #[false,.slice none 0 0]] κ κ κ ⟨?_,?_,?_,?_,?_,?_,fun h_=>absurd h_ δ,fun h_=>absurd h_ δ,trivial⟩ ?_
 all_goals try ((refine Rg.b1 ?_;intro zZ w_ hB e);have kz:=aE hB X.box.c0;have kz:=aE hB X.box.c1;have kz:=aE hB Z.box.c0;have kz:=aE hB Z.box.c1;(go_simp;done))
 ·refine Rg.o1 ?_;intro zZ w_ hB e
  have ef:=Rg.ef zZ;refine af rfl τ ?_;exact aI.ret hB (P0.out _ _ _ (aF.below ox.out hB))
 ·refine Rg.o1 ?_;intro zZ w_ hB e
  have ef:=Rg.ef zZ;refine af rfl τ ?_;exact aI.ret hB (P1.out _ _ _ (aF.below oz.out hB))
 ·intro _ zZ w_ hB hr
  exact ⟨by have:=hB.size;omega,rfl,by first | (go_simp;done) | (go_simp;rfl)⟩
 ·intro _ zZ w_ hB hr
  exact ⟨by have:=hB.size;omega,rfl,by first | (go_simp;done) | (go_simp;rfl)⟩
 intro vals wz hB hv hne;have n7:(Rg.Val.new (wc.heap.size) 116 #[false,.slice none 0 0]).ok (vals 4) wz:=hv 4 δ;have n8:(Rg.Val.new (wc.heap.size) 116 #[false,.slice none 0 0]).ok (vals 5) wz:=hv 5 δ;have n15:(Rg.Val.at (aI (wc.heap.size) (xq))).ok (vals 1) wz:=hv 1 δ;have n17:(Rg.Val.at (aI (wc.heap.size) (zq))).ok (vals 3) wz:=hv 3 δ;simp only [bD,Rg.fill,Act.put,Nat.reduceAdd];have Ql:=hne 4 5 δ δ δ rfl rfl;obtain ⟨g7,Og,Mm,o7⟩:=n7;replace o7:aG wz g7 116 #[false,.slice none 0 0]:=o7;obtain ⟨g8,QE,MV,o8⟩:=n8;replace o8:aG wz g8 116 #[false,.slice none 0 0]:=o8;obtain ⟨s15,M3,NN,c15,OD,v_1,Oq⟩:=(cE n15).view;obtain ⟨NQ,a17,NO,c17,NE,UB,Tt⟩:=(cE n17).view;rw [Mm,MV] at Ql
 have Nv:g7≠g8:=fun e=>Ql (by rw [e])
 simp only [Mm,MV,v_1,UB];have Pp:=Nv.symm;have hB2:Below wc wc ((((wz.setCell ⟨g7,0,none⟩ (.bool s15)).setCell ⟨g7,1,none⟩ (.slice M3 NN c15)).setCell ⟨g8,0,none⟩ (.bool NQ)).setCell ⟨g8,1,none⟩ (.slice a17 NO c17)):=IW (IW (IW (IW hB Og _) Og _) QE _) QE _;have V8:aG ((wz.setCell ⟨g7,0,none⟩ (.bool s15)).setCell ⟨g7,1,none⟩ (.slice M3 NN c15)) g8 116 #[false,.slice none 0 0]:=(o8.other Pp _).other Pp _;have U8:=aG.set2 V8 (.bool NQ) (.slice a17 NO c17);have U7:aG ((((wz.setCell ⟨g7,0,none⟩ (.bool s15)).setCell ⟨g7,1,none⟩ (.slice M3 NN c15)).setCell ⟨g8,0,none⟩ (.bool NQ)).setCell ⟨g8,1,none⟩ (.slice a17 NO c17)) g7 116 #[s15,.slice M3 NN c15]:=((aG.set2 o7 (.bool s15) (.slice M3 NN c15)).other Nv _).other Nv _;have oq:=IU (aF.bQ (aF.bQ Oq o7 δ (.bool s15) (.slice M3 NN c15)) V8 δ (.bool NQ) (.slice a17 NO c17));have or:=IU (aF.bQ (aF.bQ Tt o7 δ (.bool s15) (.slice M3 NN c15)) V8 δ (.bool NQ) (.slice a17 NO c17));have ⟨c0,c1,f0,f1,_⟩:=o7.box;have ⟨c2,c3,f2,f3,_⟩:=o8.box;unfold aV aV aV Oper.wp;go_simp
 clear c0 c1 f0 f1 c2 c3 f2 f3 o7 o8 Oq Tt V8 Nv Pp Ql;generalize ((((wz.setCell ⟨g7,0,none⟩ (.bool s15)).setCell ⟨g7,1,none⟩ (.slice M3 NN c15)).setCell ⟨g8,0,none⟩ (.bool NQ)).setCell ⟨g8,1,none⟩ (.slice a17 NO c17))=wd at *;replace ⟨X,Z,C,R⟩:=Ip hB2 X Z C R;replace ox:=IU (aF.below ox.out hB2);replace oz:=IU (aF.below oz.out hB2);have hgd:g8<wd.heap.size:=U8.lt;replace hw:=j_ hw hB2;have Me:wc.heap.size<=wd.heap.size:=hB2.size
 go_upto_region 3 with fail
 refine b8 11 [.is (.agg #[s15,.slice M3 NN c15]),.at (aI (wd.heap.size) (xxx)),.is (.agg #[s15,.slice M3 NN c15]),.is (.agg #[NQ,.slice a17 NO c17]),.at (aI (wd.heap.size) (xz2)),.is (.pointer (some ⟨w,0,none⟩)),.is a,.is (2*a:Int),.at (aI (wd.heap.size) (xt)),.at (aI (wd.heap.size) (S1)),.new (wd.heap.size) 116 #[false,.slice none 0 0]] κ κ κ ⟨?_,?_,?_,?_,?_,?_,?_,?_,?_,?_,?_,fun h_=>absurd h_ δ,trivial⟩ ?_
 all_goals try ((refine Rg.b1 ?_;intro zZ w_ hB e);have kz:=aE hB U7.box.c0;have kz:=aE hB U7.box.c1;have kz:=aE hB U8.box.c0;have kz:=aE hB U8.box.c1;have kz:=aE hB C.box.c0;have ec:=Rg.ec zZ;(first | (go_simp;done) | (go_simp;exact Rg.wo ω)))
 ·refine Rg.o1 ?_;intro zZ w_ hB e
  have ef:=Rg.ef zZ;refine af rfl τ ?_;rw [OD.out];exact aI.ret hB (P2.out _ _ _ (aF.below oq.out hB))
 ·intro _ zZ w_ hB hr
  have e20:=Rg.t_ (hr 20 δ);have e21:=Rg.t_ (hr 21 δ);have ef:=Rg.ef zZ;refine af rfl τ ?_;rw [OD.out];rw [NE.out];exact aI.ret hB (P3.out _ _ _ _ _ (aF.below oq.out hB) (aF.below or.out hB))
 ·intro _ zZ w_ hB hr
  obtain ⟨s22,a22,l22,c22,Xj,e22,o22⟩:=aI.get (hr 22 δ);have e25:=Rg.t_ (hr 25 δ);have ef:=Rg.ef zZ;refine af rfl τ ?_;obtain rfl:=Xj.out;exact aI.ret hB (P4.out _ _ _ o22)
 ·intro _ zZ w_ hB hr
  obtain ⟨Mf,M4,MU,c19,Kc,e19,RK⟩:=aI.get (hr 19 δ);obtain ⟨s26,a26,l26,c26,QQ,e26,YW⟩:=aI.get (hr 26 δ);have ef:=Rg.ef zZ;refine af rfl τ ?_;obtain rfl:=Kc.out;obtain rfl:=QQ.out;exact aI.ret hB (P5.out _ _ _ _ _ RK YW)
 ·intro _ zZ w_ hB hr
  exact ⟨by have:=hB.size;omega,rfl,by first | (go_simp;done) | (go_simp;rfl)⟩
 intro vals wz hB hv hne;have n9:(Rg.Val.new (wd.heap.size) 116 #[false,.slice none 0 0]).ok (vals 10) wz:=hv 10 δ;have n27:(Rg.Val.at (aI (wd.heap.size) (S1))).ok (vals 9) wz:=hv 9 δ;simp only [bD,Rg.fill,Act.put,Nat.reduceAdd];obtain ⟨g9,Kv,JJ,o9⟩:=n9;replace o9:aG wz g9 116 #[false,.slice none 0 0]:=o9;obtain ⟨Qn,a27,Qd,Ph,QR,J9,Tv⟩:=(cE n27).view;simp only [JJ,J9];have hB2:Below wd wd ((wz.setCell ⟨g9,0,none⟩ (.bool Qn)).setCell ⟨g9,1,none⟩ (.slice a27 Qd Ph)):=IW (IW hB Kv _) Kv _;have U:=aG.set2 o9 (.bool Qn) (.slice a27 Qd Ph);have oU:=IU (aF.bQ Tv o9 δ (.bool Qn) (.slice a27 Qd Ph));have ⟨c0,c1,f0,f1,_⟩:=o9.box;unfold aV aV Oper.wp;go_simp
 clear c0 c1 f0 f1 o9 Tv;generalize ((wz.setCell ⟨g9,0,none⟩ (.bool Qn)).setCell ⟨g9,1,none⟩ (.slice a27 Qd Ph))=we at *;replace ⟨X,Z,C,R,U8⟩:=KU hB2 X Z C R U8;replace ox:=IU (aF.below ox.out hB2);replace oz:=IU (aF.below oz.out hB2);replace or:=IU (aF.below or.out hB2);replace hw:=j_ hw hB2;have Me:wd.heap.size<=we.heap.size:=hB2.size
 go_upto_region 4 with fail
 clear hB2 hB;refine b8 11 [.is (.agg #[Qn,.slice a27 Qd Ph]),.is (.agg #[s1,.slice ax lx cx]),.is (.agg #[s2,.slice az lz cz]),.at (aI (we.heap.size) (y1)),.is (.agg #[NQ,.slice a17 NO c17]),.at (aI (we.heap.size) (y2)),.is (.pointer (some ⟨w,1,none⟩)),.is b,.is (8*b:Int),.at (aI (we.heap.size) (yb)),.at (aI (we.heap.size) (S2))] κ κ κ ⟨?_,?_,?_,?_,?_,?_,?_,?_,?_,?_,?_,fun h_=>absurd h_ δ,trivial⟩ ?_
 all_goals try ((refine Rg.b1 ?_;intro zZ w_ hB e);have kz:=aE hB U.box.c0;have kz:=aE hB U.box.c1;have kz:=aE hB X.box.c0;have kz:=aE hB X.box.c1;have kz:=aE hB Z.box.c0;have kz:=aE hB Z.box.c1;have kz:=aE hB U8.box.c0;have kz:=aE hB U8.box.c1;have kz:=aE hB C.box.c1;have ec:=Rg.ec zZ;(first | (go_simp;done) | (go_simp;exact Rg.wo ω)))
 ·intro _ zZ w_ hB hr
  have e29:=Rg.t_ (hr 29 δ);have e30:=Rg.t_ (hr 30 δ);have ef:=Rg.ef zZ;refine af rfl τ ?_;exact aI.ret hB (P6.out _ _ _ _ _ (aF.below ox.out hB) (aF.below oz.out hB))
 ·intro _ zZ w_ hB hr
  obtain ⟨s31,a31,l31,c31,Xo,e31,YX⟩:=aI.get (hr 31 δ);have e32:=Rg.t_ (hr 32 δ);have ef:=Rg.ef zZ;refine af rfl τ ?_;obtain rfl:=Xo.out;rw [NE.out];exact aI.ret hB (P7.out _ _ _ _ _ YX (aF.below or.out hB))
 ·intro _ zZ w_ hB hr
  obtain ⟨ON,a33,OH,Ns,NH,e33,Qg⟩:=aI.get (hr 33 δ);have e36:=Rg.t_ (hr 36 δ);have ef:=Rg.ef zZ;refine af rfl τ ?_;obtain rfl:=NH.out;exact aI.ret hB (P8.out _ _ _ Qg)
 ·intro _ zZ w_ hB hr
  have e28:=Rg.t_ (hr 28 δ);obtain ⟨s37,a37,l37,c37,Xs,e37,o37⟩:=aI.get (hr 37 δ);have ef:=Rg.ef zZ;refine af rfl τ ?_;obtain rfl:=Xs.out;rw [QR.out];exact aI.ret hB (P9.out _ _ _ _ _ (aF.below oU.out hB) o37)
 intro vals wy hB hv hne;have n38:(Rg.Val.at (aI (we.heap.size) (S2))).ok (vals 10) wy:=hv 10 δ;simp only [bD,Rg.fill,Act.put,Nat.reduceAdd];obtain ⟨OO,a38,OI,Nt,Xt,JJ,YZ⟩:=(cE n38).view;simp only [JJ];have U2:=U.keep hB;have hB2:Below wd we ((wy.setCell ⟨g9,0,none⟩ (.bool OO)).setCell ⟨g9,1,none⟩ (.slice a38 OI Nt)):=IW (IW (hB.mono Me) Kv _) Kv _;have oS:=IU (aF.bQ YZ U2 δ (.bool OO) (.slice a38 OI Nt));have U3:=aG.set2 U2 (.bool OO) (.slice a38 OI Nt)
 have hq8:g8<wd.heap.size/\w.heap.size+1+1<wd.heap.size:=⟨hgd,ω⟩
 have hC9:w.heap.size<wd.heap.size:=ω
 have C5:aG ((wy.setCell ⟨g9,0,none⟩ (.bool OO)).setCell ⟨g9,1,none⟩ (.slice a38 OI Nt)) w 25 #[a,b]:=((C.keep hB).other ω _).other ω _;have R5:aG ((wy.setCell ⟨g9,0,none⟩ (.bool OO)).setCell ⟨g9,1,none⟩ (.slice a38 OI Nt)) (w.heap.size+1+1) 116 #[false,.slice none 0 0]:=((R.keep hB).other ω _).other ω _;have Q5:aG ((wy.setCell ⟨g9,0,none⟩ (.bool OO)).setCell ⟨g9,1,none⟩ (.slice a38 OI Nt)) g8 116 #[NQ,.slice a17 NO c17]:=((U8.keep hB).other ω _).other ω _;have oq5:=IU (aF.bQ (aF.below or.out hB) U2 δ (.bool OO) (.slice a38 OI Nt));have RG:=hw.trans (hB2.mono (show w.heap.size<=wd.heap.size by omega));have ⟨c0,c1,f0,f1,_⟩:=U2.box;unfold aV aV Oper.wp;go_simp
 clear c0 c1 f0 f1 U2 hB2 hB;generalize ((wy.setCell ⟨g9,0,none⟩ (.bool OO)).setCell ⟨g9,1,none⟩ (.slice a38 OI Nt))=wf at *
 go_upto_region 5 with fail
 refine b8 10 [.is (.agg #[OO,.slice a38 OI Nt]),.is (.agg #[NQ,.slice a17 NO c17]),.at (aI (wf.heap.size) (zzz)),.is (.pointer (some ⟨w,0,none⟩)),.is a,.is (.pointer (some ⟨w,0,none⟩)),.is a,.is (a*a:Int),.at (aI (wf.heap.size) (za)),.at (aI (wf.heap.size) (F))] κ κ κ ⟨?_,?_,?_,?_,?_,?_,?_,?_,?_,?_,fun h_=>absurd h_ δ,trivial⟩ ?_
 all_goals try ((first | (refine Rg.b1 ?_;intro zZ w_ hB e) | (refine Rg.b2 ?_;intro zZ w_ hB e f));have kz:=aE hB U3.box.c0;have kz:=aE hB U3.box.c1;have kz:=aE hB Q5.box.c0;have kz:=aE hB Q5.box.c1;have kz:=aE hB C5.box.c0;(first | (go_simp;done) | (go_simp;exact Rg.wo ω)))
 ·refine Rg.o1 ?_;intro zZ w_ hB e
  have ef:=Rg.ef zZ;refine af rfl τ ?_;rw [NE.out];exact aI.ret hB (PA.out _ _ _ (aF.below oq5.out hB))
 ·intro _ zZ w_ hB hr
  obtain ⟨MH,a41,ME,Lw,OE,e41,Tw⟩:=aI.get (hr 41 δ);have e46:=Rg.t_ (hr 46 δ);have ef:=Rg.ef zZ;refine af rfl τ ?_;obtain rfl:=OE.out;exact aI.ret hB (PB.out _ _ _ Tw)
 ·intro _ zZ w_ hB hr
  have e39:=Rg.t_ (hr 39 δ);obtain ⟨s47,a47,l47,c47,Xw,e47,Ya⟩:=aI.get (hr 47 δ);have ef:=Rg.ef zZ;refine af rfl τ ?_;obtain rfl:=Xw.out;rw [Xt.out];exact aI.ret hB (PC.out _ _ _ _ _ (aF.below oS.out hB) Ya)
 intro vals wv R9 hv hne;have n48:(Rg.Val.at (aI (wf.heap.size) (F))).ok (vals 9) wv:=hv 9 δ;simp only [bD,Rg.fill,Act.put,Nat.reduceAdd];obtain ⟨S0,a48,Sr,Rx,QT,J9,Yb⟩:=(cE n48).view;simp only [J9];replace R:=R5;replace hw:=RG;have R2:=R.keep R9;have ⟨c0,c1,f0,f1,_⟩:=R2.box;have hr1:=aF.base (aF.bQ Yb R2 δ (.bool S0) (.slice a48 Sr Rx)) (show w.heap.size<=wf.heap.size from hw.size);have hr2:Below w w ((wv.setCell ⟨w.heap.size+1+1,0,none⟩ (.bool S0)).setCell ⟨w.heap.size+1+1,1,none⟩ (.slice a48 Sr Rx)):=IW (IW (j_ hw R9) (by simp <;> omega) _) (by simp <;> omega) _;unfold aV aV Oper.wp;go_simp
 go_wp2;exact D_ (v:=.agg #[S0,.slice a48 Sr Rx]) results191 ⟨_,by rw [QT.out],hr1,hr2⟩
namespace Wh
theorem rk {a b x z:Int} (hx:sz x 1000) (hz:sz z 1000) (ha1:-1000<=a) (ha2:a<=1000) (hb1:-10000<=b) (hb2:b<=10000):sz (ai a b x z) 5000:=by
 have haa:-1000000<=a*a/\a*a<=1000000:=aH (x:=a) (y:=a) (m:=1000) (n:=1000);rw [←uG];have mx:=ah hx hx;have mz:=ah hz hz;have m1:=rh (aL (ah mx mx) (show 1000+1000+(1000+1000)<=4100 by omega)) (aL (ah (ah mx mz) (be (n:=2*a) ω ω)) (show _<=4100 by omega));have m2:=rh (aL m1 (show 4100+1<=4200 by omega)) (aL (ah (ah (ah hx hz) mz) (be (n:=8*b) ω ω)) (show _<=4200 by omega));exact aL (jI (aL m2 (show 4200+1<=4300 by omega)) (aL (ah (ah mz mz) (be (n:=a*a) ω ω)) (show _<=4300 by omega))) ω
theorem rf {a b x z:Int} (hx:sz x 1000) (hz:sz z 1000) (ha1:-1000<=a) (ha2:a<=1000) (hb1:-10000<=b) (hb2:b<=10000):sz (ae a b x z) 6000:=by
 rw [←sU];have m1:=ah hx hx;have m0:=ah hz hz;have m2:=ah m1 hx;have m4:=ah (ah hx m0) (be (n:=a) ω ω);have m5:=jI (aL m2 (show 1000+1000+1000<=4000 by omega)) (aL m4 (show _<=4000 by omega));have m7:=ah (ah hz m0) (be (n:=b) ω ω);have m8:=jI (aL m5 (show 4000+1<=4100 by omega)) (aL m7 (show _<=4100 by omega));exact aL (ah (ah hz m8) (be (n:=4) ω ω)) ω
def KX (D F G:Int):Nat:=Nat.gcd (Nat.gcd (4*D.natAbs) F.natAbs) G.natAbs
theorem Aj (D F G:Int):Nat.gcd (G.natAbs % Nat.gcd (F.natAbs % (4*D.natAbs)) (4*D.natAbs)) (Nat.gcd (F.natAbs % (4*D.natAbs)) (4*D.natAbs))=KX D F G:=by
 unfold KX;rw [←Nat.gcd_rec,←Nat.gcd_rec]
theorem tA (n:Nat) (y:Int):M.gcd (n:Int) (y % (n:Int))=(Nat.gcd n y.natAbs:Nat):=by
 unfold M.gcd Int.gcd;rw [Int.natAbs_natCast]
 by_cases hn:n=0
 ·subst hn
  simp
 congr 1
 apply Nat.dvd_antisymm
 ·refine Nat.dvd_gcd (Nat.gcd_dvd_left _ _) ?_
  have h1:(Nat.gcd n (y % (n:Int)).natAbs:Int) ∣ y % (n:Int):=Int.ofNat_dvd_left.2 (Nat.gcd_dvd_right _ _);have h2:(Nat.gcd n (y % (n:Int)).natAbs:Int) ∣ (n:Int):=Int.ofNat_dvd.2 (Nat.gcd_dvd_left _ _)
  have h3:(Nat.gcd n (y % (n:Int)).natAbs:Int) ∣ y:=by
   have h4:=Int.dvd_add h1 (Int.dvd_mul_of_dvd_left (c:=y / (n:Int)) h2)
   rwa [Int.emod_add_mul_ediv] at h4
  exact Int.ofNat_dvd_left.1 h3
 refine Nat.dvd_gcd (Nat.gcd_dvd_left _ _) ?_;have h1:(Nat.gcd n y.natAbs:Int) ∣ y:=Int.ofNat_dvd_left.2 (Nat.gcd_dvd_right _ _);have h2:(Nat.gcd n y.natAbs:Int) ∣ (n:Int):=Int.ofNat_dvd.2 (Nat.gcd_dvd_left _ _)
 have h3:(Nat.gcd n y.natAbs:Int) ∣ y % (n:Int):=by
  rw [Int.emod_def];exact Int.dvd_sub h1 (Int.dvd_mul_of_dvd_left h2)
 exact Int.ofNat_dvd_left.1 h3
theorem DM (D F G:Int):M.gcd (M.gcd (4*(D.natAbs:Int)) (F % (4*(D.natAbs:Int)))) (G % (4*(D.natAbs:Int)))=(KX D F G:Nat):=by
 have e:(4*(D.natAbs:Int))=((4*D.natAbs:Nat):Int):=ω
 rw [e,tA];unfold KX;have h:Nat.gcd F.natAbs F.natAbs=F.natAbs:=Nat.gcd_self _;have h1:=tA (4*D.natAbs) G;unfold M.gcd Int.gcd at h1 ⊢;rw [Int.natAbs_natCast] at h1 ⊢
 have h2:Nat.gcd (4*D.natAbs) (G % ((4*D.natAbs:Nat):Int)).natAbs=Nat.gcd (4*D.natAbs) G.natAbs:=ω
 rw [Nat.gcd_comm (4*D.natAbs) F.natAbs,Nat.gcd_assoc,Nat.gcd_assoc,h2]
theorem DL (D F G:Int):KX D (-F) (-G)=KX D F G:=by unfold KX;rw [Int.natAbs_neg,Int.natAbs_neg]
theorem Ai {D:Int} (F G:Int) (h:D≠0):1<=KX D F G/\KX D F G<=4*D.natAbs:=by
 unfold KX
 have h0:0<4*D.natAbs:=ω
 have h1:0<Nat.gcd (4*D.natAbs) F.natAbs:=Nat.gcd_pos_of_pos_left _ h0;exact ⟨Nat.gcd_pos_of_pos_left _ h1,Nat.le_trans (Nat.gcd_le_left _ h1) (Nat.gcd_le_left _ h0)⟩
end Wh
theorem nd (a b x z:Int) (vx vz:Value) (w:World) (bx bz:Nat) (hg:M.good a b=true) (hox:aZ w bx vx x) (JD:aZ w bz vz z) (hx:Wh.sz x 1000) (hz:Wh.sz z 1000) :
  cB 180 #[.agg #[a,b],.agg #[decide (x<0),vx,decide (z<0),vz]] w (.int .i64 (Wh.KX (aO a b) (ai a b x z) (ae a b x z):Nat)):=by
 obtain ⟨ax,cx,rfl,-,-⟩:=aF.view hox;obtain ⟨az,cz,rfl,-,-⟩:=aF.view JD;have hin:=aY hg;obtain ⟨ha1,ha2,hb1,hb2⟩:=aW hin;have hdb:=fy hin;have hdn:=iL hg
 have PC:=fun W=>qb a b W hin
 have PF:=fun v v' W k k' (h1:aF W k v (Wh.a_ x.natAbs)) (h2:aF W k' v' (Wh.a_ z.natAbs))=>jk a b x z v v' W k k' h1 h2 hx hz ha1 ha2 hb1 hb2
 have PG:=fun v v' W k k' (h1:aF W k v (Wh.a_ x.natAbs)) (h2:aF W k' v' (Wh.a_ z.natAbs))=>fM a b x z v v' W k k' h1 h2 hx hz ha1 ha2 hb1 hb2
 have sF:=aR.2 (aL (rk hx hz ha1 ha2 hb1 hb2) (show 5000<=9000 by omega));have sG:=aR.2 (aL (rf hx hz ha1 ha2 hb1 hb2) (show 6000<=9000 by omega));have hres:=Aj (aO a b) (ai a b x z) (ae a b x z);generalize ae a b x z=G,ai a b x z=F,aO a b=D,Wh.KX (aO a b) (ai a b x z) (ae a b x z)=RES at *
 have hn1:1<=4*D.natAbs:=ω
 have hn2:4*D.natAbs<=1000000000000:=ω
 have PV:=fun v W k (h:aF W k v (Wh.a_ F.natAbs))=>ji F (4*D.natAbs) v W k h sF hn1 hn2
 have hm1:1<=Nat.gcd (F.natAbs % (4*D.natAbs)) (4*D.natAbs):=Nat.gcd_pos_of_pos_right _ hn1;have hm2:Nat.gcd (F.natAbs % (4*D.natAbs)) (4*D.natAbs)<=1000000000000:=Nat.le_trans (Nat.gcd_le_right _ hn1) hn2
 have PW:=fun v W k (h:aF W k v (Wh.a_ G.natAbs))=>ji G (Nat.gcd (F.natAbs % (4*D.natAbs)) (4*D.natAbs)) v W k h sG hm1 hm2
 rw [hres] at PW
 have hmax:(if 4*D < -4*D then -4*D else 4*D)=((4*D.natAbs:Nat):Int):=by split <;> omega
 have NB:max (4*D) (-4*D)=((4*D.natAbs:Nat):Int):=ω
 clear hn1 hn2 hm1 hm2 hres sF sG ha1 ha2 hb1 hb2 hdn
 have hD1:-6700000000<=D:=ω
 have hD2:D<=6700000000:=ω
 clear hdb;generalize hN:4*D.natAbs=N at *;replace hN:=IU hN;generalize Nat.gcd (F.natAbs % N) N=N2 at *;replace hmax:=IU hmax;replace NB:=IU NB;replace PC:=IU PC;replace PF:=IU PF;replace PG:=IU PG;replace PV:=IU PV;replace PW:=IU PW;generalize hs1:decide (x<0)=s1 at *;generalize hs2:decide (z<0)=s2 at *;clear hs1 hs2;replace hox:=IU (show aF _ _ _ _ from hox);replace JD:=IU (show aF _ _ _ _ from JD);generalize (Wh.a_ z.natAbs).length=lz,(Wh.a_ x.natAbs).length=lx at *;obtain ⟨wc,hw3,b1,b2,hB⟩:=eC w #[a,b] 25 #[s1,.slice ax lx cx,s2,.slice az lz cz] 174;have ox:=IU (aF.below hox.out hB);have oz:=IU (aF.below JD.out hB);clear hox JD;go_enter func180,ntmps180
 go_wp2
 go_upto_region 1 with fail
 refine b8 8 [.is (.agg #[a,b]),.is D,.is (4*D:Int),.is (.agg #[a,b]),.is D,.is ((-4)*D:Int),.is (.int .i64 ((N:Nat):Int)),.is (.int .i64 ((N:Nat):Int))] κ κ κ ⟨?_,?_,?_,?_,?_,?_,?_,?_,trivial⟩ ?_
 all_goals try ((first | (refine Rg.b1 ?_;intro zZ w_ hB e) | (refine Rg.b2 ?_;intro zZ w_ hB e f));have kz:=aE hB b1.box.c0;have kz:=aE hB b1.box.c1;have ec:=Rg.ec zZ;(first | (go_simp;done) | (go_simp;exact Rg.wo ω) | (go_simp;first | done | (rw [hmax.out];done) | (rw [NB.out];done) | (simp only [hmax.out];done);done)))
 ·refine Rg.o1 ?_;intro zZ w_ hB e
  have ef:=Rg.ef zZ;exact bp rfl γ (PC.out _)
 ·refine Rg.o1 ?_;intro zZ w_ hB e
  have ef:=Rg.ef zZ;exact bp rfl γ (PC.out _)
 intro vals wz hB1 hv hne;have Kj:vals 7=.int .i64 ((N:Nat):Int):=hv 7 δ;simp only [bD,Rg.fill,Act.put,Nat.reduceAdd];clear hv;simp only [Kj];clear Kj;replace ⟨b1,b2⟩:=Im hB1 b1 b2;replace ox:=IU (aF.below ox.out hB1);replace oz:=IU (aF.below oz.out hB1);have hBw:=j_ hB hB1;unfold aV
 go_upto_region 2 with fail
 clear hB1;refine b8 10 [.is (.agg #[a,b]),.is (.agg #[s1,.slice ax lx cx,s2,.slice az lz cz]),.at (aI (wz.heap.size) (G)),.is (.agg #[a,b]),.is (.agg #[s1,.slice ax lx cx,s2,.slice az lz cz]),.at (aI (wz.heap.size) (F)),.is (.int .i64 ((N:Nat):Int)),.is (.int .i64 ((N2:Nat):Int)),.is (.int .i64 ((RES:Nat):Int)),.is (.int .i64 ((RES:Nat):Int))] κ κ κ ⟨?_,?_,?_,?_,?_,?_,?_,?_,?_,?_,trivial⟩ ?_
 all_goals try ((refine Rg.b1 ?_;intro zZ w_ hB e);have kz:=aE hB b1.box.c0;have kz:=aE hB b1.box.c1;have kz:=aE hB b2.aK.c0;have kz:=aE hB b2.aK.c1;have kz:=aE hB b2.aK.c2;have kz:=aE hB b2.aK.c3;(go_simp;done))
 ·intro _ zZ w_ hB hr
  have e13:=Rg.t_ (hr 13 δ);have e14:=Rg.t_ (hr 14 δ);have ef:=Rg.ef zZ;refine af rfl τ ?_;exact aI.ret hB (PG.out _ _ _ _ _ (aF.below ox.out hB) (aF.below oz.out hB))
 ·intro _ zZ w_ hB hr
  have e16:=Rg.t_ (hr 16 δ);have e17:=Rg.t_ (hr 17 δ);have ef:=Rg.ef zZ;refine af rfl τ ?_;exact aI.ret hB (PF.out _ _ _ _ _ (aF.below ox.out hB) (aF.below oz.out hB))
 ·intro _ zZ w_ hB hr
  obtain ⟨s18,a18,l18,c18,QP,e18,YV⟩:=aI.get (hr 18 δ);have e19:=Rg.t_ (hr 19 δ);have ef:=Rg.ef zZ;obtain rfl:=QP.out;exact bp rfl γ (PV.out _ _ _ YV)
 ·intro _ zZ w_ hB hr
  obtain ⟨s15,M3,NN,c15,OD,e15,Oq⟩:=aI.get (hr 15 δ);have e20:=Rg.t_ (hr 20 δ);have ef:=Rg.ef zZ;obtain rfl:=OD.out;exact bp rfl γ (PW.out _ _ _ Oq)
 intro vals wy hB2 hv hne;have J9:vals 9=.int .i64 ((RES:Nat):Int):=hv 9 δ;simp only [bD,Rg.fill,Act.put,Nat.reduceAdd];clear hv;simp only [J9];clear J9;unfold aV;go_wp2;go_ret;exact ⟨rfl,j_ hBw hB2⟩
end
end Go.Proofs.YtkalaljcbmkbmaaGreat
