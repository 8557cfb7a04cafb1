/-
  Joined texts: contracts and plain lemmas.
-/
import Derived.Test.YtggekfbfechonaaGreatY1
import Derived.Laws.OwnMore
import Derived.Deep.DeepCutAuto
import Derived.Deep.RegionWith
import Derived.BigQuiet
set_option linter.unusedSimpArgs false
set_option linter.unusedVariables false
set_option maxRecDepth 100000
set_option maxHeartbeats 8000000
namespace Go.Proofs.YtggekfbfechonaaGreat
section
open Go.RowKit
structure AA (w:World) (b:Nat) (m n:Int):Prop where
 c0:w.cell? ⟨b,0,none⟩=some (.int .i64 m)
 c1:w.cell? ⟨b,1,none⟩=some (.int .i64 n)
 f0:w.frozen? ⟨b,0,none⟩=false
 f1:w.frozen? ⟨b,1,none⟩=false
 size:b<w.heap.size
theorem AA.keepR {w w':World} {b:Nat} {m n:Int} {r:Option Nat} (h:AA w b m n) (hg:w.grownBy w' r) (hn:some b≠r):AA w' b m n:=
 ⟨hg.cell h.c0 hn,hg.cell h.c1 hn,(Gr.frozen hg h.size hn).trans h.f0,(Gr.frozen hg h.size hn).trans h.f1,Gr.iv hg h.size⟩
theorem AA.aR {w w':World} {b g:Nat} {m n:Int} (h:AA w b m n) (hg:w.grownBy w' (some g)) (hn:b≠g):AA w' b m n:=h.keepR hg (by simpa using hn)
theorem AA.keep {w w':World} {b:Nat} {m n:Int} (h:AA w b m n) (hb:Below w.heap.size w w'):AA w' b m n:=h.keepR (bf hb none) (by simp)
theorem AA.alloc {w:World} {b:Nat} {m n:Int} (h:AA w b m n) (o:Obj):AA (w.alloc o) b m n:=h.keep ((wK _ _).alloc (wL _) o)
theorem AA.drew {w:World} {b:Nat} {m n:Int} (h:AA w b m n):AA w.drew b m n:=⟨h.c0,h.c1,h.f0,h.f1,h.size⟩
theorem AA.new (w:World) (m n:Int) (T:TypeId):AA (w.alloc (.cells #[.int .i64 m,.int .i64 n] T)) w.heap.size m n:=
 ⟨by rw [World.cell?_alloc_at _ _ _ _ rfl];rfl,by rw [World.cell?_alloc_at _ _ _ _ rfl];rfl,by simp [go_sem],by simp [go_sem],by rw [wI];omega⟩
theorem AA.store {w:World} {b:Nat} {m n:Int} (h:AA w b m n) (x y:Int):AA ((w.setCell ⟨b,0,none⟩ (.int .i64 x)).setCell ⟨b,1,none⟩ (.int .i64 y)) b x y:=by
 obtain ⟨h1,h2,h3,h4,h5⟩:=h;exact ⟨by simp [go_sem, *],by simp [go_sem, *],by simp [go_sem, *],by simp [go_sem, *],by simp [go_sem, *]⟩
theorem cG (w:World) (c:Nat) (x y:Value):w.grownBy ((w.setCell ⟨c,0,none⟩ x).setCell ⟨c,1,none⟩ y) (some c):=Gr.set (Gr.set (ce w (some c)) 0 x) 1 y
theorem AA.other {w:World} {b c:Nat} {m n:Int} (h:AA w b m n) (hn:b≠c) (x y:Value):AA ((w.setCell ⟨c,0,none⟩ x).setCell ⟨c,1,none⟩ y) b m n:=h.aR (cG w c x y) hn
theorem cN.keepR {w w':World} {g B n K c:Nat} {v:Value} (h:cN w g B v n K) (hg:w.grownBy w' (some c)) (hc:g≠c) (hB:B≤c):cN w' g B v n K:=by
 obtain ⟨k,hk,h⟩:=h;obtain ⟨s,hs⟩:=h.c2;exact ⟨k,hk,h.bytes.keep hg hB,h.lt,Gr.eC hg h.c0 hc,Gr.eC hg h.c1 hc,⟨s,Gr.eC hg hs hc⟩,Gr.po hg h.size h.f1 hc,Gr.po hg h.size h.f2 hc,Gr.iv hg h.size⟩
structure St (w W:World) (g B:Nat) (v:Value) (n K:Nat):Prop where
 cur:cN W g B v n K
 gr:w.grownBy W (some g)
 lt:B≤g
theorem St.start {w:World} {g B n K:Nat} {v:Value} (h:cN w g B v n K):St w w g B v n K:=⟨h,ce _ _,h.elim fun _ h=>h.2.lt⟩
theorem St.call {w W W':World} {g B n K K':Nat} {v:Value} (h:St w W g B v n K) (hc:cN W' g B v n K') (hg:W.grownBy W' (some g)):St w W' g B v n K':=⟨hc,cf h.gr hg,h.lt⟩
theorem St.keep {w W W':World} {g B n K:Nat} {v:Value} (h:St w W g B v n K) (hb:Below W.heap.size W W'):St w W' g B v n K:=⟨h.cur.keep hb,cf h.gr (bf hb _),h.lt⟩
theorem St.alloc {w W:World} {g B n K:Nat} {v:Value} (h:St w W g B v n K) (o:Obj):St w (W.alloc o) g B v n K:=h.keep ((wK _ _).alloc (wL _) o)
theorem St.store {w W:World} {g B n K c:Nat} {v:Value} (h:St w W g B v n K) (hc:w.heap.size≤c) (hg:g≠c) (hB:B≤c) (x y:Value):St w ((W.setCell ⟨c,0,none⟩ x).setCell ⟨c,1,none⟩ y) g B v n K:=
 ⟨h.cur.keepR (cG W c x y) hg hB,Gr.ia (Gr.ia h.gr hc _) hc _,h.lt⟩
theorem St.size {w W:World} {g B n K:Nat} {v:Value} (h:St w W g B v n K):g<W.heap.size:=h.cur.size
theorem St.le {w W:World} {g B n K:Nat} {v:Value} (h:St w W g B v n K):w.heap.size≤W.heap.size:=h.gr.size
theorem bT (W:World) (T:TypeId) (l:List Int):∀ (j:Nat) (x:Int),l[j]?=some x→(W.alloc (.cells (l.map (Value.int .i64)).toArray T)).cell? ⟨W.heap.size,j,none⟩=some (.int .i64 x):=fun j x h=>by
 rw [World.cell?_alloc_at _ _ _ _ rfl];simp [h]
def pT (w:World) (g B:Nat) (v:Value) (n K:Nat) (l:List Int) (e:Ending) (w':World):Prop:=
 ∃ x:Int,e=.returned (.int .i64 x)∧x ∈ l∧cN w' g B v n K∧w.grownBy w' (some g)
theorem cI (g B:Nat) (v:Value) (n K:Nat) (l:List Int) (b m:Nat) (w:World) (h:cN w g B v n K) (hk:K≤900000000) (hm:l.length=m) (h1:1≤m) (h2:m≤60000) (hne:b≠g)
  (hc:∀ (j:Nat) (x:Int),l[j]?=some x→w.cell? ⟨b,j,none⟩=some (.int .i64 x)) :
  Calls Tryz.prog 100 #[.pointer (some ⟨g,0,none⟩),.slice (some ⟨b,0,none⟩) m m] w (pT w g B v n (K+2) l):=by
 have Hc:=wH hc;have Hm:=wH hm;clear hc hm;go_enter Tryz.func100,Tryz.ntmps100
 go_wp2_with fail
 refine (cJ g B v n K m _ h hk (by omega) (by omega)).mono ?_;rintro e w1 ⟨y,rfl,⟨y1,y2⟩,hc1,hg1⟩
 obtain ⟨j,rfl⟩:∃ j:Nat,y=j:=⟨y.toNat,by omega⟩
 have hj:j<m:=by omega
 obtain ⟨x,hx⟩:∃ x,Hid (l[j]?=some x):=⟨_,wH (List.getElem?_eq_getElem (by have:=Hm.out;omega))⟩
 have q0:=Gr.eC hg1 (Hc.out j x hx.out) hne;go_wp2;go_ret;exact ⟨x,rfl,List.mem_of_getElem? hx.out,hc1,hg1⟩
def ak (W:World) (base:Nat) (sl:Value) (z:Int):Prop:=aF W base sl (Wh.a_ z.natAbs)
theorem ak.below {w w':World} {base:Nat} {v:Value} {z:Int} (h:ak w base v z) (hb:Below w.heap.size w w'):ak w' base v z:=aF.below h hb
theorem ak.base {w:World} {base base':Nat} {v:Value} {z:Int} (h:ak w base v z) (hb:base'≤base):ak w base' v z:=aF.base h hb
namespace Wh
theorem nI {l:List Int} {k:Nat} (hk:k<l.length) (h0:l[k]?=some 0):trim (l.take (k+1))=trim (l.take k):=by
 rw [List.take_add_one,h0];exact ii _
theorem kZ {l:List Int} {k:Nat} {x:Int} (hx:l[k]?=some x) (h0:x≠0):trim (l.take (k+1))=l.take (k+1):=by
 rw [List.take_add_one,hx];exact kY _ h0
theorem uT {n:Nat}:decide (0<(a_ n).length)=decide ((n:Int)≠0):=by
 rw [decide_eq_decide]
 constructor
 ·intro h h0
  rw [fx.2 (by omega:n=0)] at h;exact absurd h (by decide)
 intro h
 cases hd:a_ n with
 | nil=>exact absurd (fx.1 hd) (by omega)
 | cons x l=>exact Nat.succ_pos _
end Wh
structure ar (w:World) (b:Nat) (u v:Value):Prop where
 c0:w.cell? ⟨b,0,none⟩=some u
 c1:w.cell? ⟨b,1,none⟩=some v
 f0:w.frozen? ⟨b,0,none⟩=false
 f1:w.frozen? ⟨b,1,none⟩=false
 size:b<w.heap.size
theorem ar.keep {w w':World} {b:Nat} {u v:Value} (h:ar w b u v) (hb:Below w.heap.size w w'):ar w' b u v:=
 have hg:=bf hb none
 ⟨hg.cell h.c0 (by simp),hg.cell h.c1 (by simp),(Gr.frozen hg h.size (by simp)).trans h.f0,(Gr.frozen hg h.size (by simp)).trans h.f1,Gr.iv hg h.size⟩
theorem ar.new (w:World) (u v:Value) (T:TypeId):ar (w.alloc (.cells #[u,v] T)) w.heap.size u v:=
 ⟨by rw [World.cell?_alloc_at _ _ _ _ rfl];rfl,by rw [World.cell?_alloc_at _ _ _ _ rfl];rfl,by simp [go_sem],by simp [go_sem],by rw [wI];omega⟩
theorem ar.alloc {w:World} {b:Nat} {u v:Value} (h:ar w b u v) (o:Obj):ar (w.alloc o) b u v:=h.keep ((wK _ _).alloc (wL _) o)
theorem qK {w w2:World} {o:Obj} {sl:Value} {xs:List Int} (u:Value) (hoc:aF w2 (w.alloc o).heap.size sl xs) (hbc:Below (w.alloc o).heap.size (w.alloc o) w2) :
  aF ((w2.setCell ⟨w.heap.size,0,none⟩ u).setCell ⟨w.heap.size,1,none⟩ sl) w.heap.size sl xs∧Below w.heap.size w ((w2.setCell ⟨w.heap.size,0,none⟩ u).setCell ⟨w.heap.size,1,none⟩ sl):=by
 have hz:(w.alloc o).heap.size=w.heap.size+1:=wI _ _;refine ⟨aF.base (World.ownsRow.kept hoc (cG w2 w.heap.size u sl) ?_) (by omega),?_⟩
 ·cases hs:sl.ownBlock with
  | none=>exact Or.inl rfl
  | some g=>
  right
  intro e
  injection e with e
  have:=(aF.lt hoc g hs).1;omega
 exact ((((wK _ _).alloc (wL _) o).trans (hbc.mono (by omega))).setCell (wL _) _).setCell (wL _) _
theorem aF.vK {w:World} {base cap k:Nat} {a:Option Addr} {xs:List Int} (h:aF w base (.slice a xs.length cap) xs) (hk:k≤xs.length):aF w base (.slice a k cap) (xs.take k):=by
 rcases h.forms with ⟨e,rfl⟩ | ⟨g,cap',e,-⟩
 ·obtain rfl:k=0:=by simpa using hk
  exact h
 injection e with e1 e2 e3
 subst e1;exact aF.cut rfl h hk rfl
theorem Wh.my {l:List Int} {k n:Nat} (hk:k≤l.length) (h:l.take k=Wh.a_ n):(n:Int)≠0 ↔ 0<k:=by
 have h1:=congrArg List.length h;rw [List.length_take,Nat.min_eq_left hk] at h1;have h2:=Wh.uT (n:=n);rw [decide_eq_decide,←h1] at h2;exact h2.symm
theorem qS (neg:Bool) (ls:List Int) (v:Value) (w:World) (base:Nat) (hown:aF w base v ls) (h:Wh.bQ ls) (hl:ls.length≤1000000) :
  Calls Tryz.prog 171 #[.bool neg,v] w fun e w'=>∃ sl,e=.returned (.agg #[.bool (decide (Wh.yG neg (Wh.val ls)<0)),sl])∧ak w' w.heap.size sl (Wh.yG neg (Wh.val ls))∧Below w.heap.size w w':=by
 obtain ⟨a,cap,rfl,hm,hv⟩:=hown.seen;have hv:=wH hv;have hgt:=wH (Wh.jM h);have hn:=Wh.cs h;have hs1:=wH (Wh.pK (neg:=neg) hn);have hs2:=wH (Wh.lS (neg:=neg) hn);have hls:=wH h;have hcp:=hown.cap;replace hown:=wH hown;clear hm hn h;have bx:=ar.new w (.bool false) (.slice none 0 0) 125;go_enter Tryz.func171,Tryz.ntmps171
 go_wp2
 go_loopw [1] (fun vl wr=>∃ k:Nat,k≤ls.length∧vl=.slice a k cap∧Wh.trim (ls.take k)=Wh.trim ls∧wr=w.alloc (.cells #[.bool false,.slice none 0 0] 125)) (fun vl _=>match vl with | .slice _ n _=>n | _=>0)
 case atStart=>exact ⟨ls.length,wL _,rfl,by rw [List.take_length],rfl⟩
 case round=>
 obtain ⟨k,hk,rfl,htr,rfl⟩:=hrel;have hown2:aF (w.alloc (.cells #[.bool false,.slice none 0 0] 125)) base (.slice a k cap) (ls.take k):=(aF.vK hown.out hk).alloc _
 have fin:ls.take k=Wh.a_ (Wh.val ls).toNat→Hid ((decide (Wh.yG neg (Wh.val ls)<0)=(neg && decide (0<k)))∧∀ (W:World) (b:Nat) (vc:Value),aF W b vc (ls.take k)→ak W b vc (Wh.yG neg (Wh.val ls))):=fun h=>wH (by
  have h2:=Wh.my hk h;have hn:=Wh.cs hls.out;refine ⟨?_,fun W b vc ho=>?_⟩
  ·rw [hs1.out]
   congr 1
   rw [decide_eq_decide,←h2];omega
  unfold ak;rw [hs2.out,←h]
  exact ho)
 have PC:=fun W v h=>mE (ls.take k) v W base h (by rw [List.length_take];omega)
 have PC:=wH PC;have hown2:=wH hown2;have htr:=wH htr
 cases k with
 | zero=>
  have f2:=fin (by rw [←hgt.out,←htr.out];rfl);clear fin htr hgt;cases neg
  all_goals
   go_wp2_with (go_at_call 194;(with_reducible refine (PC.out _ _ hown2.out).mono ?_);rintro e w2 ⟨vc,rfl,hoc,hbc⟩;obtain ⟨ac,wX,rfl,hmc,xV⟩:=hoc.view;have xW:=bx.keep hbc;have c0:=xW.c0;have c1:=xW.c1;have g0:=xW.f0;have g1:=xW.f1;clear xV hmc)
   have hr:=qK (.bool false) hoc hbc;exact bodyPost_ret (v:=.agg #[.bool false,.slice ac 0 wX]) (by simp [results,Tryz.results171,go_sem, *]) rfl (⟨_,by rw [f2.out.1] <;> rfl,f2.out.2 _ _ _ hr.1,hr.2⟩)
 | succ m=>
 obtain ⟨g,x,rfl,hg,hx,hcell⟩:=hv.out m (by omega)
 by_cases h0:x=0
 ·subst h0
  have hct:=wH ((Wh.nI (by omega) hx.out).symm.trans htr.out);clear fin htr;go_wp2
  go_roundw
  case rel=>exact ⟨m,by omega,rfl,hct.out,by first | rfl | trivial⟩
  case measure=>simp
 have f2:=fin (by rw [←hgt.out,←htr.out,Wh.kZ hx.out h0]);generalize ls.take (m+1)=L at *;clear fin htr hgt;cases neg
 ·go_wp2_with (go_at_call 194;(with_reducible refine (PC.out _ _ hown2.out).mono ?_);rintro e w2 ⟨vc,rfl,hoc,hbc⟩;obtain ⟨ac,wX,rfl,hmc,xV⟩:=hoc.view;have xW:=bx.keep hbc;have c0:=xW.c0;have c1:=xW.c1;have g0:=xW.f0;have g1:=xW.f1;clear xV hmc)
  have hr:=qK (.bool false) hoc hbc;exact bodyPost_ret (v:=.agg #[.bool false,.slice ac L.length wX]) (by simp [results,Tryz.results171,go_sem, *]) rfl (⟨_,by rw [f2.out.1] <;> rfl,f2.out.2 _ _ _ hr.1,hr.2⟩)
 go_wp2_with (go_at_call 194;(with_reducible refine (PC.out _ _ hown2.out).mono ?_);rintro e w2 ⟨vc,rfl,hoc,hbc⟩;obtain ⟨ac,wX,rfl,hmc,xV⟩:=hoc.view;have xW:=bx.keep hbc;have c0:=xW.c0;have c1:=xW.c1;have g0:=xW.f0;have g1:=xW.f1;clear xV hmc)
 have hr:=qK (.bool true) hoc hbc;exact bodyPost_ret (v:=.agg #[.bool true,.slice ac L.length wX]) (by simp [results,Tryz.results171,go_sem, *]) rfl (⟨_,by rw [f2.out.1] <;> simp,f2.out.2 _ _ _ hr.1,hr.2⟩)
namespace Wh
theorem pL (z:Int):yG (!decide (z<0)) z.natAbs=-z:=by
 unfold yG
 by_cases h:z<0
 ·rw [decide_eq_true h];simp only [Bool.not_true,Bool.false_eq_true,if_false];omega
 rw [decide_eq_false h];simp only [Bool.not_false,if_true];omega
theorem lc {o:List Int} {m N:Int} (ho:bQ o) (h:val o+10000 ^ o.length*m=N) (hm:0<m) (hN:N≤1000000000000000000):o.length≤4:=by
 have h1:=cs ho
 by_cases h5:5≤o.length
 ·have h2:=iX h5
  have h3:=Int.mul_le_mul_of_nonneg_left (show 1≤m by omega) (Int.le_of_lt (pow_pos o.length))
  have h4:(10000:Int) ^ 5=100000000000000000000:=by decide
  omega
 omega
theorem jO {o:List Int} {m N:Int} (h:val o+10000 ^ o.length*m=N) (hm:0≤m):val (o ++ [m % 10000])+10000 ^ (o ++ [m % 10000]).length*(m / 10000)=N:=by
 rw [nM,List.length_append,List.length_singleton,Int.pow_succ];have:=Int.mul_ediv_add_emod m 10000;generalize m / 10000=q,m % 10000=r at *
 grind
end Wh
theorem fE (z:Int) (neg:Bool) (ls:List Int) (v:Value) (w:World) (base:Nat) (hown:aF w base v ls) (h:Wh.bQ ls) (hl:ls.length≤1000000) (hz:Wh.yG neg (Wh.val ls)=z) :
  Calls Tryz.prog 171 #[.bool neg,v] w fun e w'=>∃ sl,e=.returned (.agg #[.bool (decide (z<0)),sl])∧ak w' w.heap.size sl z∧Below w.heap.size w w':=by
 subst hz;exact qS neg ls v w base hown h hl
theorem cF {w w2:World} {sl:Value} {xs:List Int} (c base:Nat) (u:Value) (h1:w.heap.size≤c) (h2:c<base) (hoc:aF w2 base sl xs) (hB:Below w.heap.size w w2) :
  aF ((w2.setCell ⟨c,0,none⟩ u).setCell ⟨c,1,none⟩ sl) w.heap.size sl xs∧Below w.heap.size w ((w2.setCell ⟨c,0,none⟩ u).setCell ⟨c,1,none⟩ sl):=by
 refine ⟨aF.base (World.ownsRow.kept hoc (cG w2 c u sl) ?_) (by omega),(hB.setCell h1 _).setCell h1 _⟩
 cases hs:sl.ownBlock with
 | none=>exact Or.inl rfl
 | some g=>
 right
 intro e
 injection e with e
 have:=(aF.lt hoc g hs).1;omega
theorem cr (w:World) (o o':Obj):((w.alloc o).alloc o').heap.size=w.heap.size+2:=by rw [wI,wI]
theorem ar.new2 (w:World) (o:Obj) (u v:Value) (T:TypeId):ar ((w.alloc o).alloc (.cells #[u,v] T)) (w.heap.size+1) u v:=by
 have:=ar.new (w.alloc o) u v T
 rwa [wI] at this
theorem iW (z:Int) (sl:Value) (w:World) (base:Nat) (ho:ak w base sl z) (hl:(Wh.a_ z.natAbs).length≤1000000) :
  Calls Tryz.prog 141 #[.agg #[.bool (decide (z<0)),sl]] w fun e w'=>∃ sl',e=.returned (.agg #[.bool (decide (-z<0)),sl'])∧ak w' w.heap.size sl' (-z)∧Below w.heap.size w w':=by
 have PT:=fun W v h=>fE (-z) (!decide (z<0)) (Wh.a_ z.natAbs) v W base h (Wh.bD _) hl (by rw [Wh.bR];exact Wh.pL z)
 obtain ⟨a,cap,rfl,hm,hv⟩:=aF.view ho;clear hm hv;have ho:=wH (show aF _ _ _ _ from ho);generalize -z=y,decide (z<0)=b at *;generalize (Wh.a_ z.natAbs).length=n,decide (y<0)=b' at *;have bz:=ar.new2 w (.cells #[.bool b,.slice a n cap] 125) (.bool false) (.slice none 0 0) 125;have hz2:=cr w (.cells #[.bool b,.slice a n cap] 125) (.cells #[.bool false,.slice none 0 0] 125);cases b
 all_goals
  simp only [Bool.not_true,Bool.not_false] at PT;have PT:=wH PT;go_enter Tryz.func141,Tryz.ntmps141
  go_wp2_with (go_at_call 171;(with_reducible refine (PT.out _ _ (aF.alloc (aF.alloc ho.out _) _)).mono ?_);rintro e w2 ⟨vc,rfl,hoc,hbc⟩;obtain ⟨ac,wX,rfl,hmc,xV⟩:=aF.view hoc;have xW:=bz.keep hbc;have c0:=xW.c0;have c1:=xW.c1;have g0:=xW.f0;have g1:=xW.f1;clear xV hmc)
  have hr:=cF (w:=w) (w.heap.size+1) _ (.bool b') (by omega) (by rw [hz2];omega) hoc (by repeat (first | exact wK _ _ | refine aV ?_ _ | refine aW ?_ (by assumption) | refine Below.drew ?_ | refine wJ ?_ (by first | exact wL _ | exact Nat.le_add_right _ _ | (simp <;> omega)) _ | refine aM ?_ _));generalize (Wh.a_ y.natAbs).length=n2 at *;exact bodyPost_ret (v:=.agg #[.bool b',.slice ac n2 wX]) (by simp [results,Tryz.results141,go_sem, *]) rfl (⟨_,rfl,hr.1,hr.2⟩)
theorem nY (z:Int) (sl:Value) (w:World) (base:Nat) (ho:ak w base sl z) (hl:(Wh.a_ z.natAbs).length≤1000000) :
  Calls Tryz.prog 182 #[.agg #[.bool (decide (z<0)),sl]] w fun e w'=>∃ sl',e=.returned (.agg #[.bool (decide ((z.natAbs:Int)<0)),sl'])∧ak w' w.heap.size sl' (z.natAbs:Int)∧Below w.heap.size w w':=by
 have PT:=fun W v h=>fE (z.natAbs:Int) false (Wh.a_ z.natAbs) v W base h (Wh.bD _) hl (by rw [Wh.bR];rfl)
 obtain ⟨a,cap,rfl,hm,hv⟩:=aF.view ho;clear hm hv;have ho:=wH (show aF _ _ _ _ from ho);generalize decide (z<0)=b at *;generalize (z.natAbs:Int)=y at *;generalize (Wh.a_ z.natAbs).length=n,decide (y<0)=b' at *;have bz:=ar.new2 w (.cells #[.bool b,.slice a n cap] 125) (.bool false) (.slice none 0 0) 125;have hz2:=cr w (.cells #[.bool b,.slice a n cap] 125) (.cells #[.bool false,.slice none 0 0] 125);cases b
 all_goals
  have PT:=wH PT;go_enter Tryz.func182,Tryz.ntmps182
  go_wp2_with (go_at_call 171;(with_reducible refine (PT.out _ _ (aF.alloc (aF.alloc ho.out _) _)).mono ?_);rintro e w2 ⟨vc,rfl,hoc,hbc⟩;obtain ⟨ac,wX,rfl,hmc,xV⟩:=aF.view hoc;have xW:=bz.keep hbc;have c0:=xW.c0;have c1:=xW.c1;have g0:=xW.f0;have g1:=xW.f1;clear xV hmc)
  have hr:=cF (w:=w) (w.heap.size+1) _ (.bool b') (by omega) (by rw [hz2];omega) hoc (by repeat (first | exact wK _ _ | refine aV ?_ _ | refine aW ?_ (by assumption) | refine Below.drew ?_ | refine wJ ?_ (by first | exact wL _ | exact Nat.le_add_right _ _ | (simp <;> omega)) _ | refine aM ?_ _));generalize (Wh.a_ y.natAbs).length=n2 at *;exact bodyPost_ret (v:=.agg #[.bool b',.slice ac n2 wX]) (by simp [results,Tryz.results182,go_sem, *]) rfl (⟨_,rfl,hr.1,hr.2⟩)
theorem ar.dP {w w':World} {b base:Nat} {u v:Value} (h:ar w b u v) (hb:Below base w w') (hl:b<base):ar w' b u v:=
 ⟨(hb.cell (p:=⟨b,0,none⟩) hl).trans h.c0,(hb.cell (p:=⟨b,1,none⟩) hl).trans h.c1,(hb.frozen (p:=⟨b,0,none⟩) hl).trans h.f0,(hb.frozen (p:=⟨b,1,none⟩) hl).trans h.f1,Nat.lt_of_lt_of_le h.size hb.size⟩
theorem bj (n:Int) (w:World) (h1:-1000000000000000000≤n) (h2:n≤1000000000000000000) :
  Calls Tryz.prog 139 #[.int .i64 n] w fun e w'=>∃ sl,e=.returned (.agg #[.bool (decide (n<0)),sl])∧ak w' w.heap.size sl n∧Below w.heap.size w w':=by
 obtain ⟨k,hk⟩:∃ k:Nat,n.natAbs=k:=⟨_,rfl⟩
 have PT:=fun (o:List Int) (W:World) (v:Value) (base:Nat) (h:aF W base v o) (hl:Wh.bQ o) (hv:Wh.val o=k) (hlen:o.length≤1000000)=>fE n (decide (n<0)) o v W base h hl hlen (by rw [hv,←hk];exact Wh.mu n)
 have hbd:(k:Int)≤1000000000000000000:=by omega
 have bx:=ar.new w (.bool false) (.slice none 0 0) 125
 by_cases hneg:n<0
 ·obtain rfl:n=-(k:Int):=by omega
  have hk0:0<(k:Int):=by omega
  have hdk:decide (-(k:Int)<0)=decide (0<k):=by rw [decide_eq_decide];omega
  rw [hdk] at PT ⊢;clear hdk;have PT:=wH PT;clear hk hneg h1 h2;go_enter Tryz.func139,Tryz.ntmps139
  go_wp2
  go_loopw [0,4] (fun vn vo wr=>∃ (m:Nat) (o:List Int),vn=.int .i64 m∧aF wr (w.heap.size+1) vo o∧Wh.bQ o∧Wh.val o+10000 ^ o.length*(m:Int)=k∧m≤1000000000000000000∧o.length≤5∧Hid (ar wr w.heap.size (.bool false) (.slice none 0 0))∧Below w.heap.size w wr) (fun vn _ _=>(intOf vn).toNat)
  case atStart=>exact ⟨k,[],rfl,aF.nil _ _,(fun x hx=>by cases hx),by simp [Wh.val],by omega,by simp,wH bx,(wK _ _).alloc (wL _) _⟩
  case round=>
  clear bx;obtain ⟨m,o,rfl,hown,hls,hvl,hm18,wW,xy,hbr⟩:=hrel;have hls:=wH hls;have A3:w.heap.size+1≤wr.heap.size:=xy.out.size
  by_cases hm0:0<m
  ·have hlen:=Wh.lc hls.out hvl (by omega) (by omega)
   have hst:=Wh.jO hvl (by omega);rw [show ((m:Int) % 10000)=((m % 10000:Nat):Int) by omega,show ((m:Int) / 10000)=((m / 10000:Nat):Int) by omega] at hst;have hst:=wH hst;have hrb:m % 10000<10000:=Nat.mod_lt _ (by decide);have M6:m / 10000<m:=Nat.div_lt_self hm0 (by decide)
   have t1:Int.tmod (m:Int) 10000=((m % 10000:Nat):Int):=by rw [Int.tmod_eq_emod_of_nonneg (by omega)];omega
   have t2:Int.tdiv (m:Int) 10000=((m / 10000:Nat):Int):=by rw [Int.tdiv_eq_ediv_of_nonneg (by omega)];omega
   generalize m / 10000=q,m % 10000=r at *;have hl2:Hid (Wh.bQ (o ++ [(r:Int)])):=wH (Wh.cQ hls.out fun y hy=>by rw [List.mem_singleton] at hy;subst hy;unfold Wh.lim;omega);have hl3:Hid ((o ++ [(r:Int)]).length≤5):=wH (by rw [List.length_append];simp;omega);have hown:=wH hown;clear hvl
   go_wp2_with (at_builtin;refine cn (W:=wr) (w.heap.size+1) (r:Int) _ _ rfl (.tmp 15) (.tmp 18) rfl rfl rfl hown.out (wK _ _) (by omega) (by omega) ?_;rintro v6 w6 hown6 hb6)
   go_roundw
   case rel=>exact ⟨q,o ++ [(r:Int)],rfl,hown6,hl2.out,hst.out,by omega,hl3.out,wH (xy.out.dP hb6 (Nat.lt_succ_self _)),hbr.trans (hb6.mono (Nat.le_succ _))⟩
   case measure=>simp [intOf];omega
  obtain rfl:m=0:=by omega
  have yN:Wh.val o=k:=by rw [←hvl];simp
  have yN:=wH yN;have hown:=wH hown;clear hvl
  go_wp2_with (go_at_call 171;(with_reducible refine (PT.out o _ _ _ hown.out hls.out yN.out (by omega)).mono ?_);rintro e w2 ⟨vc,rfl,hoc,hbc⟩;obtain ⟨ac,wX,rfl,hmc,xV⟩:=aF.view hoc;have xW:=xy.out.keep hbc;have c0:=xW.c0;have c1:=xW.c1;have g0:=xW.f0;have g1:=xW.f1;clear xV hmc)
  have hr:=cF (w:=w) w.heap.size _ (.bool (decide (0<k))) (wL _) xy.out.size hoc (hbr.trans (hbc.mono (by omega)))
  have en:(-(k:Int)).natAbs=k:=by omega
  rw [en] at hr;generalize (Wh.a_ k).length=n2 at *;exact bodyPost_ret (v:=.agg #[.bool (decide (0<k)),.slice ac n2 wX]) (by simp [results,Tryz.results139,go_sem, *]) rfl (⟨_,rfl,by unfold ak;rw [en];exact hr.1,hr.2⟩)
 obtain rfl:n=(k:Int):=by omega
 rw [decide_eq_false hneg] at PT ⊢;have PT:=wH PT;clear hk h1 h2
 have Mw:0≤(k:Int):=by omega
 go_enter Tryz.func139,Tryz.ntmps139
 go_wp2
 go_loopw [0,4] (fun vn vo wr=>∃ (m:Nat) (o:List Int),vn=.int .i64 m∧aF wr (w.heap.size+1) vo o∧Wh.bQ o∧Wh.val o+10000 ^ o.length*(m:Int)=k∧m≤1000000000000000000∧o.length≤5∧Hid (ar wr w.heap.size (.bool false) (.slice none 0 0))∧Below w.heap.size w wr) (fun vn _ _=>(intOf vn).toNat)
 case atStart=>exact ⟨k,[],rfl,aF.nil _ _,(fun x hx=>by cases hx),by simp [Wh.val],by omega,by simp,wH bx,(wK _ _).alloc (wL _) _⟩
 case round=>
 clear bx;obtain ⟨m,o,rfl,hown,hls,hvl,hm18,wW,xy,hbr⟩:=hrel;have hls:=wH hls;have A3:w.heap.size+1≤wr.heap.size:=xy.out.size
 by_cases hm0:0<m
 ·have hlen:=Wh.lc hls.out hvl (by omega) (by omega)
  have hst:=Wh.jO hvl (by omega);rw [show ((m:Int) % 10000)=((m % 10000:Nat):Int) by omega,show ((m:Int) / 10000)=((m / 10000:Nat):Int) by omega] at hst;have hst:=wH hst;have hrb:m % 10000<10000:=Nat.mod_lt _ (by decide);have M6:m / 10000<m:=Nat.div_lt_self hm0 (by decide)
  have t1:Int.tmod (m:Int) 10000=((m % 10000:Nat):Int):=by rw [Int.tmod_eq_emod_of_nonneg (by omega)];omega
  have t2:Int.tdiv (m:Int) 10000=((m / 10000:Nat):Int):=by rw [Int.tdiv_eq_ediv_of_nonneg (by omega)];omega
  generalize m / 10000=q,m % 10000=r at *;have hl2:Hid (Wh.bQ (o ++ [(r:Int)])):=wH (Wh.cQ hls.out fun y hy=>by rw [List.mem_singleton] at hy;subst hy;unfold Wh.lim;omega);have hl3:Hid ((o ++ [(r:Int)]).length≤5):=wH (by rw [List.length_append];simp;omega);have hown:=wH hown;clear hvl
  go_wp2_with (at_builtin;refine cn (W:=wr) (w.heap.size+1) (r:Int) _ _ rfl (.tmp 15) (.tmp 18) rfl rfl rfl hown.out (wK _ _) (by omega) (by omega) ?_;rintro v6 w6 hown6 hb6)
  go_roundw
  case rel=>exact ⟨q,o ++ [(r:Int)],rfl,hown6,hl2.out,hst.out,by omega,hl3.out,wH (xy.out.dP hb6 (Nat.lt_succ_self _)),hbr.trans (hb6.mono (Nat.le_succ _))⟩
  case measure=>simp [intOf];omega
 obtain rfl:m=0:=by omega
 have yN:Wh.val o=k:=by rw [←hvl];simp
 have yN:=wH yN;have hown:=wH hown;clear hvl
 go_wp2_with (go_at_call 171;(with_reducible refine (PT.out o _ _ _ hown.out hls.out yN.out (by omega)).mono ?_);rintro e w2 ⟨vc,rfl,hoc,hbc⟩;obtain ⟨ac,wX,rfl,hmc,xV⟩:=aF.view hoc;have xW:=xy.out.keep hbc;have c0:=xW.c0;have c1:=xW.c1;have g0:=xW.f0;have g1:=xW.f1;clear xV hmc)
 have hr:=cF (w:=w) w.heap.size _ (.bool false) (wL _) xy.out.size hoc (hbr.trans (hbc.mono (by omega)))
 have en:(k:Int).natAbs=k:=by omega
 rw [en] at hr;generalize (Wh.a_ k).length=n2 at *;exact bodyPost_ret (v:=.agg #[.bool false,.slice ac n2 wX]) (by simp [results,Tryz.results139,go_sem, *]) rfl (⟨_,rfl,by unfold ak;rw [en];exact hr.1,hr.2⟩)
theorem tF (xs:List Int) (v:Value) (w:World) (base:Nat) (hown:aF w base v xs) (hl:xs.length≤1000000000) :
  Calls Tryz.prog 192 #[v] w fun e w'=>∃ v',e=.returned v'∧aF w' w.heap.size v' xs∧Below w.heap.size w w':=by
 obtain ⟨A,cap',rfl,hf⟩:=mP hown;have hf:=wH hf;go_enter Tryz.func192,Tryz.ntmps192
 go_wp2_with (at_builtin;refine mi (W:=w) w.heap.size xs [] _ A _ _ (by rfl) (by rfl) (.tmp 3) (.tmp 4) (by rfl) (by rfl) (by rfl) (hf.out _ (by repeat (first | exact wK _ _ | refine aV ?_ _ | refine aW ?_ (by assumption) | refine Below.drew ?_ | refine wJ ?_ (by first | exact wL _ | exact Nat.le_add_right _ _ | (simp <;> omega)) _ | refine aM ?_ _))) (aF.uf _ _ (wL _)) (by repeat (first | exact wK _ _ | refine aV ?_ _ | refine aW ?_ (by assumption) | refine Below.drew ?_ | refine wJ ?_ (by first | exact wL _ | exact Nat.le_add_right _ _ | (simp <;> omega)) _ | refine aM ?_ _)) (by simp) (by simp;omega) ?_;rintro v1 w1 hown1 hb1)
 go_ret;exact ⟨_,rfl,hown1,hb1⟩
theorem qm (neg:Bool) (ls:List Int) (v:Value) (w:World) (base:Nat) (hown:aF w base v ls) (h:Wh.bQ ls) (hl:ls.length≤1000000) :
  Calls Tryz.prog 168 #[.bool neg,v] w fun e w'=>∃ sl,e=.returned (.agg #[.bool (decide (Wh.yG neg (Wh.val ls)<0)),sl])∧ak w' w.heap.size sl (Wh.yG neg (Wh.val ls))∧Below w.heap.size w w':=by
 obtain ⟨a,cap,rfl,hm,hv⟩:=hown.seen;have hv:=wH hv;have hgt:=wH (Wh.jM h);have hn:=Wh.cs h;have hs1:=wH (Wh.pK (neg:=neg) hn);have hs2:=wH (Wh.lS (neg:=neg) hn);have hls:=wH h;have hcp:=hown.cap;replace hown:=wH hown;clear hm hn h;have bx:=ar.new w (.bool false) (.slice none 0 0) 125;go_enter Tryz.func168,Tryz.ntmps168
 go_wp2
 go_loopw [5] (fun vl wr=>∃ k:Nat,k≤ls.length∧vl=.int .i64 k∧Wh.trim (ls.take k)=Wh.trim ls∧wr=w.alloc (.cells #[.bool false,.slice none 0 0] 125)) (fun vl _=>(intOf vl).toNat)
 case atStart=>exact ⟨ls.length,wL _,rfl,by rw [List.take_length],rfl⟩
 case round=>
 obtain ⟨k,hk,rfl,htr,rfl⟩:=hrel;have hown2:aF (w.alloc (.cells #[.bool false,.slice none 0 0] 125)) base (.slice a k cap) (ls.take k):=(aF.vK hown.out hk).alloc _
 have fin:ls.take k=Wh.a_ (Wh.val ls).toNat→Hid ((decide (Wh.yG neg (Wh.val ls)<0)=(neg && decide (0<k)))∧∀ (W:World) (b:Nat) (vc:Value),aF W b vc (ls.take k)→ak W b vc (Wh.yG neg (Wh.val ls))):=fun h=>wH (by
  have h2:=Wh.my hk h;have hn:=Wh.cs hls.out;refine ⟨?_,fun W b vc ho=>?_⟩
  ·rw [hs1.out]
   congr 1
   rw [decide_eq_decide,←h2];omega
  unfold ak;rw [hs2.out,←h]
  exact ho)
 have PC:=fun W v h=>tF (ls.take k) v W base h (by rw [List.length_take];omega)
 have PC:=wH PC;have hown2:=wH hown2;have htr:=wH htr
 cases k with
 | zero=>
  have f2:=fin (by rw [←hgt.out,←htr.out];rfl);clear fin htr hgt;cases neg
  all_goals
   go_wp2_with (go_at_call 192;(with_reducible refine (PC.out _ _ hown2.out).mono ?_);rintro e w2 ⟨vc,rfl,hoc,hbc⟩;obtain ⟨ac,wX,rfl,hmc,xV⟩:=hoc.view;have xW:=bx.keep hbc;have c0:=xW.c0;have c1:=xW.c1;have g0:=xW.f0;have g1:=xW.f1;clear xV hmc)
   have hr:=qK (.bool false) hoc hbc;exact bodyPost_ret (v:=.agg #[.bool false,.slice ac 0 wX]) (by simp [results,Tryz.results168,go_sem, *]) rfl (⟨_,by rw [f2.out.1] <;> rfl,f2.out.2 _ _ _ hr.1,hr.2⟩)
 | succ m=>
 obtain ⟨g,x,rfl,hg,hx,hcell⟩:=hv.out m (by omega)
 by_cases h0:x=0
 ·subst h0
  have hct:=wH ((Wh.nI (by omega) hx.out).symm.trans htr.out);clear fin htr;go_wp2
  go_roundw
  case rel=>exact ⟨m,by omega,by go_num,hct.out,by first | rfl | trivial⟩
  case measure=>simp [intOf]
 have f2:=fin (by rw [←hgt.out,←htr.out,Wh.kZ hx.out h0]);generalize ls.take (m+1)=L at *;clear fin htr hgt;cases neg
 ·go_wp2_with (go_at_call 192;(with_reducible refine (PC.out _ _ hown2.out).mono ?_);rintro e w2 ⟨vc,rfl,hoc,hbc⟩;obtain ⟨ac,wX,rfl,hmc,xV⟩:=hoc.view;have xW:=bx.keep hbc;have c0:=xW.c0;have c1:=xW.c1;have g0:=xW.f0;have g1:=xW.f1;clear xV hmc)
  have hr:=qK (.bool false) hoc hbc;exact bodyPost_ret (v:=.agg #[.bool false,.slice ac L.length wX]) (by simp [results,Tryz.results168,go_sem, *]) rfl (⟨_,by rw [f2.out.1] <;> rfl,f2.out.2 _ _ _ hr.1,hr.2⟩)
 go_wp2_with (go_at_call 192;(with_reducible refine (PC.out _ _ hown2.out).mono ?_);rintro e w2 ⟨vc,rfl,hoc,hbc⟩;obtain ⟨ac,wX,rfl,hmc,xV⟩:=hoc.view;have xW:=bx.keep hbc;have c0:=xW.c0;have c1:=xW.c1;have g0:=xW.f0;have g1:=xW.f1;clear xV hmc)
 have hr:=qK (.bool true) hoc hbc;exact bodyPost_ret (v:=.agg #[.bool true,.slice ac L.length wX]) (by simp [results,Tryz.results168,go_sem, *]) rfl (⟨_,by rw [f2.out.1] <;> simp,f2.out.2 _ _ _ hr.1,hr.2⟩)
theorem fw (z:Int) (neg:Bool) (ls:List Int) (v:Value) (w:World) (base:Nat) (hown:aF w base v ls) (h:Wh.bQ ls) (hl:ls.length≤1000000) (hz:Wh.yG neg (Wh.val ls)=z) :
  Calls Tryz.prog 168 #[.bool neg,v] w fun e w'=>∃ sl,e=.returned (.agg #[.bool (decide (z<0)),sl])∧ak w' w.heap.size sl z∧Below w.heap.size w w':=by
 subst hz;exact qm neg ls v w base hown h hl
theorem iJ (z:Int) (sl:Value) (w:World) (base:Nat) (ho:ak w base sl z) (hl:(Wh.a_ z.natAbs).length≤1000000) :
  Calls Tryz.prog 188 #[.agg #[.bool (decide (z<0)),sl]] w fun e w'=>∃ sl',e=.returned (.agg #[.bool (decide (-z<0)),sl'])∧ak w' w.heap.size sl' (-z)∧Below w.heap.size w w':=by
 have PT:=fun W v h=>fw (-z) (!decide (z<0)) (Wh.a_ z.natAbs) v W base h (Wh.bD _) hl (by rw [Wh.bR];exact Wh.pL z)
 obtain ⟨a,cap,rfl,hm,hv⟩:=aF.view ho;clear hm hv;have ho:=wH (show aF _ _ _ _ from ho);generalize -z=y,decide (z<0)=b at *;generalize (Wh.a_ z.natAbs).length=n,decide (y<0)=b' at *;have bz:=ar.new2 w (.cells #[.bool b,.slice a n cap] 125) (.bool false) (.slice none 0 0) 125;have hz2:=cr w (.cells #[.bool b,.slice a n cap] 125) (.cells #[.bool false,.slice none 0 0] 125);cases b
 all_goals
  simp only [Bool.not_true,Bool.not_false] at PT;have PT:=wH PT;go_enter Tryz.func188,Tryz.ntmps188
  go_wp2_with (go_at_call 168;(with_reducible refine (PT.out _ _ (aF.alloc (aF.alloc ho.out _) _)).mono ?_);rintro e w2 ⟨vc,rfl,hoc,hbc⟩;obtain ⟨ac,wX,rfl,hmc,xV⟩:=aF.view hoc;have xW:=bz.keep hbc;have c0:=xW.c0;have c1:=xW.c1;have g0:=xW.f0;have g1:=xW.f1;clear xV hmc)
  have hr:=cF (w:=w) (w.heap.size+1) _ (.bool b') (by omega) (by rw [hz2];omega) hoc (by repeat (first | exact wK _ _ | refine aV ?_ _ | refine aW ?_ (by assumption) | refine Below.drew ?_ | refine wJ ?_ (by first | exact wL _ | exact Nat.le_add_right _ _ | (simp <;> omega)) _ | refine aM ?_ _));generalize (Wh.a_ y.natAbs).length=n2 at *;exact bodyPost_ret (v:=.agg #[.bool b',.slice ac n2 wX]) (by simp [results,Tryz.results188,go_sem, *]) rfl (⟨_,rfl,hr.1,hr.2⟩)
theorem jY (n:Int) (w:World) (h1:-1000000000000000000≤n) (h2:n≤1000000000000000000) :
  Calls Tryz.prog 135 #[.int .i64 n] w fun e w'=>∃ sl,e=.returned (.agg #[.bool (decide (n<0)),sl])∧ak w' w.heap.size sl n∧Below w.heap.size w w':=by
 obtain ⟨k,hk⟩:∃ k:Nat,n.natAbs=k:=⟨_,rfl⟩
 have PT:=fun (o:List Int) (W:World) (v:Value) (base:Nat) (h:aF W base v o) (hl:Wh.bQ o) (hv:Wh.val o=k) (hlen:o.length≤1000000)=>fw n (decide (n<0)) o v W base h hl hlen (by rw [hv,←hk];exact Wh.mu n)
 have PA:=fun W=>dE n W (by omega) (by omega)
 rw [hk] at PA
 have hbd:(k:Int)≤1000000000000000000:=by omega
 have bx:=ar.new w (.bool false) (.slice none 0 0) 125
 by_cases hneg:n<0
 ·obtain rfl:n=-(k:Int):=by omega
  have hk0:0<(k:Int):=by omega
  have hdk:decide (-(k:Int)<0)=decide (0<k):=by rw [decide_eq_decide];omega
  rw [hdk] at PT ⊢;clear hdk;have PT:=wH PT;have PA:=wH PA;clear hk hneg h1 h2;go_enter Tryz.func135,Tryz.ntmps135
  go_wp2_with (go_at_call 131;(with_reducible refine (PA.out _).mono ?_);rintro e w1 ⟨rfl,rfl⟩)
  go_loopw [3,4] (fun vo vn wr=>∃ (m:Nat) (o:List Int),vn=.int .i64 m∧aF wr (w.heap.size+1) vo o∧Wh.bQ o∧Wh.val o+10000 ^ o.length*(m:Int)=k∧m≤1000000000000000000∧o.length≤5∧Hid (ar wr w.heap.size (.bool false) (.slice none 0 0))∧Below w.heap.size w wr) (fun _ vn _=>(intOf vn).toNat)
  case atStart=>exact ⟨k,[],rfl,aF.nil _ _,(fun x hx=>by cases hx),by simp [Wh.val],by omega,by simp,wH bx,(wK _ _).alloc (wL _) _⟩
  case round=>
  clear bx;obtain ⟨m,o,rfl,hown,hls,hvl,hm18,wW,xy,hbr⟩:=hrel;have hls:=wH hls;have A3:w.heap.size+1≤wr.heap.size:=xy.out.size
  by_cases hm0:0<m
  ·have hlen:=Wh.lc hls.out hvl (by omega) (by omega)
   have hst:=Wh.jO hvl (by omega);rw [show ((m:Int) % 10000)=((m % 10000:Nat):Int) by omega,show ((m:Int) / 10000)=((m / 10000:Nat):Int) by omega] at hst;have hst:=wH hst;have hrb:m % 10000<10000:=Nat.mod_lt _ (by decide);have M6:m / 10000<m:=Nat.div_lt_self hm0 (by decide)
   have t1:Int.tmod (m:Int) 10000=((m % 10000:Nat):Int):=by rw [Int.tmod_eq_emod_of_nonneg (by omega)];omega
   have t2:Int.tdiv (m:Int) 10000=((m / 10000:Nat):Int):=by rw [Int.tdiv_eq_ediv_of_nonneg (by omega)];omega
   generalize m / 10000=q,m % 10000=r at *;have hl2:Hid (Wh.bQ (o ++ [(r:Int)])):=wH (Wh.cQ hls.out fun y hy=>by rw [List.mem_singleton] at hy;subst hy;unfold Wh.lim;omega);have hl3:Hid ((o ++ [(r:Int)]).length≤5):=wH (by rw [List.length_append];simp;omega);have hown:=wH hown;clear hvl
   go_wp2_with (at_builtin;refine cn (W:=wr) (w.heap.size+1) (r:Int) _ _ rfl (.tmp 11) (.tmp 14) rfl rfl rfl hown.out (wK _ _) (by omega) (by omega) ?_;rintro v6 w6 hown6 hb6)
   go_roundw
   case rel=>exact ⟨q,o ++ [(r:Int)],rfl,hown6,hl2.out,hst.out,by omega,hl3.out,wH (xy.out.dP hb6 (Nat.lt_succ_self _)),hbr.trans (hb6.mono (Nat.le_succ _))⟩
   case measure=>simp [intOf];omega
  obtain rfl:m=0:=by omega
  have yN:Wh.val o=k:=by rw [←hvl];simp
  have yN:=wH yN;have hown:=wH hown;clear hvl
  go_wp2_with (go_at_call 168;(with_reducible refine (PT.out o _ _ _ hown.out hls.out yN.out (by omega)).mono ?_);rintro e w2 ⟨vc,rfl,hoc,hbc⟩;obtain ⟨ac,wX,rfl,hmc,xV⟩:=aF.view hoc;have xW:=xy.out.keep hbc;have c0:=xW.c0;have c1:=xW.c1;have g0:=xW.f0;have g1:=xW.f1;clear xV hmc)
  have hr:=cF (w:=w) w.heap.size _ (.bool (decide (0<k))) (wL _) xy.out.size hoc (hbr.trans (hbc.mono (by omega)))
  have en:(-(k:Int)).natAbs=k:=by omega
  rw [en] at hr;generalize (Wh.a_ k).length=n2 at *;exact bodyPost_ret (v:=.agg #[.bool (decide (0<k)),.slice ac n2 wX]) (by simp [results,Tryz.results135,go_sem, *]) rfl (⟨_,rfl,by unfold ak;rw [en];exact hr.1,hr.2⟩)
 obtain rfl:n=(k:Int):=by omega
 have PT:=wH PT;have PA:=wH PA;clear hk h1 h2
 have Mw:0≤(k:Int):=by omega
 go_enter Tryz.func135,Tryz.ntmps135
 go_wp2_with (go_at_call 131;(with_reducible refine (PA.out _).mono ?_);rintro e w1 ⟨rfl,rfl⟩)
 go_loopw [3,4] (fun vo vn wr=>∃ (m:Nat) (o:List Int),vn=.int .i64 m∧aF wr (w.heap.size+1) vo o∧Wh.bQ o∧Wh.val o+10000 ^ o.length*(m:Int)=k∧m≤1000000000000000000∧o.length≤5∧Hid (ar wr w.heap.size (.bool false) (.slice none 0 0))∧Below w.heap.size w wr) (fun _ vn _=>(intOf vn).toNat)
 case atStart=>exact ⟨k,[],rfl,aF.nil _ _,(fun x hx=>by cases hx),by simp [Wh.val],by omega,by simp,wH bx,(wK _ _).alloc (wL _) _⟩
 case round=>
 clear bx;obtain ⟨m,o,rfl,hown,hls,hvl,hm18,wW,xy,hbr⟩:=hrel;have hls:=wH hls;have A3:w.heap.size+1≤wr.heap.size:=xy.out.size
 by_cases hm0:0<m
 ·have hlen:=Wh.lc hls.out hvl (by omega) (by omega)
  have hst:=Wh.jO hvl (by omega);rw [show ((m:Int) % 10000)=((m % 10000:Nat):Int) by omega,show ((m:Int) / 10000)=((m / 10000:Nat):Int) by omega] at hst;have hst:=wH hst;have hrb:m % 10000<10000:=Nat.mod_lt _ (by decide);have M6:m / 10000<m:=Nat.div_lt_self hm0 (by decide)
  have t1:Int.tmod (m:Int) 10000=((m % 10000:Nat):Int):=by rw [Int.tmod_eq_emod_of_nonneg (by omega)];omega
  have t2:Int.tdiv (m:Int) 10000=((m / 10000:Nat):Int):=by rw [Int.tdiv_eq_ediv_of_nonneg (by omega)];omega
  generalize m / 10000=q,m % 10000=r at *;have hl2:Hid (Wh.bQ (o ++ [(r:Int)])):=wH (Wh.cQ hls.out fun y hy=>by rw [List.mem_singleton] at hy;subst hy;unfold Wh.lim;omega);have hl3:Hid ((o ++ [(r:Int)]).length≤5):=wH (by rw [List.length_append];simp;omega);have hown:=wH hown;clear hvl
  go_wp2_with (at_builtin;refine cn (W:=wr) (w.heap.size+1) (r:Int) _ _ rfl (.tmp 11) (.tmp 14) rfl rfl rfl hown.out (wK _ _) (by omega) (by omega) ?_;rintro v6 w6 hown6 hb6)
  go_roundw
  case rel=>exact ⟨q,o ++ [(r:Int)],rfl,hown6,hl2.out,hst.out,by omega,hl3.out,wH (xy.out.dP hb6 (Nat.lt_succ_self _)),hbr.trans (hb6.mono (Nat.le_succ _))⟩
  case measure=>simp [intOf];omega
 obtain rfl:m=0:=by omega
 have yN:Wh.val o=k:=by rw [←hvl];simp
 have yN:=wH yN;have hown:=wH hown;clear hvl
 go_wp2_with (go_at_call 168;(with_reducible refine (PT.out o _ _ _ hown.out hls.out yN.out (by omega)).mono ?_);rintro e w2 ⟨vc,rfl,hoc,hbc⟩;obtain ⟨ac,wX,rfl,hmc,xV⟩:=aF.view hoc;have xW:=xy.out.keep hbc;have c0:=xW.c0;have c1:=xW.c1;have g0:=xW.f0;have g1:=xW.f1;clear xV hmc)
 have hr:=cF (w:=w) w.heap.size _ (.bool (decide ((k:Int)<0))) (wL _) xy.out.size hoc (hbr.trans (hbc.mono (by omega)))
 have en:(k:Int).natAbs=k:=by omega
 rw [en] at hr;generalize (Wh.a_ k).length=n2 at *;exact bodyPost_ret (v:=.agg #[.bool (decide ((k:Int)<0)),.slice ac n2 wX]) (by simp [results,Tryz.results135,go_sem, *]) rfl (⟨_,rfl,by unfold ak;rw [en];exact hr.1,hr.2⟩)
def jS (W:World) (base:Nat) (v:Value) (z:Int) (n:Nat):Prop:=∃ o,aF W base v o∧Wh.bQ o∧Wh.val o=z∧o.length≤n
theorem rV (n:Nat):(madeCells (Value.int .i64 0).cells (n*1)).toList=(List.replicate n (0:Int)).map (Value.int .i64):=by
 show (madeCells #[Value.int .i64 0] (n*1)).toList=_
 rw [toList_madeCells_one,Nat.mul_one,List.map_replicate]
theorem kQ (w:World) (n:Nat) (hn:n≤1000000000):∃ w1,(Instr.makeSlice 60 (.int .i64 (n:Int)) (.int .i64 (n:Int))).run Tryz.prog w=.ok (.slice (some ⟨w.heap.size,0,none⟩) n n) w1∧
  aF w1 w.heap.size (.slice (some ⟨w.heap.size,0,none⟩) n n) (List.replicate n 0)∧w.grownBy w1 none:=by
 obtain ⟨i0,hi,hz0,hz1,hz2⟩:=info_parts gm;obtain ⟨w1,h1,h2,h3⟩:=run_make_full (P:=Tryz.prog) w w.heap.size 60 3 i0 (.int .i64 0) 1 Tryz.underlying60 hi hz0 hz1 .i64 .i64 n (by rw [hz2];omega) (by unfold maxLen;omega) (wL _);refine ⟨w1,h1,?_,h3⟩;unfold aF;rw [←rV,List.length_replicate];exact h2
theorem es {w:World} {base g cap n:Nat} {l:List Int} (hl:l.length=n) (h:aF w base (.slice (some ⟨g,0,none⟩) n cap) l) (i:Nat):w.frozen? ⟨g,i,none⟩=false:=by
 unfold aF at h;rw [hl] at h;exact World.ownsRow.frozenAt h i
theorem mr {l:List Int} {i n:Nat} (hl:l.length=i) (hi:i<n) (x:Int):l ++ [x] ++ List.replicate (n - (i+1)) 0=(l ++ List.replicate (n - i) 0).set i x:=by
 rw [List.set_append_right _ _ (by omega),hl,Nat.sub_self,show n - i=(n - (i+1))+1 by omega,List.replicate_succ,List.set_cons_zero];simp
theorem mb {l:List Int} {i n:Nat} (hl:l.length=i) (hi:i<n):(l ++ List.replicate (n - i) (0:Int))[i]?=some 0:=by
 rw [List.getElem?_append_right (by omega),hl,Nat.sub_self,List.getElem?_replicate,if_pos (by omega)]
theorem mX {l:List Int} {i n:Nat} (hl:l.length=i) (hi:i≤n):(l ++ List.replicate (n - i) (0:Int)).length=n:=by
 rw [List.length_append,List.length_replicate];omega
theorem jV (xs ys:List Int) (s:Int) (va vb:Value) (w:World) (ba bb:Nat) (hs:s=1∨s=-1) (hoa:aF w ba va xs) (xp:aF w bb vb ys) (hla:Wh.bQ xs) (hlb:Wh.bQ ys) (hnn:0≤Wh.val xs+s*Wh.val ys) (hl1:xs.length≤100000) (hl2:ys.length≤100000) :
  Calls Tryz.prog 172 #[va,vb,.int .i64 s] w fun e w'=>∃ v,e=.returned v∧jS w' w.heap.size v (Wh.val xs+s*Wh.val ys) (xs.length+ys.length+1)∧Below w.heap.size w w':=by
 obtain ⟨aa,o_,rfl,hma,hva⟩:=hoa.seen;obtain ⟨ab,wO,rfl,hmb,hvb⟩:=xp.seen;have hva:=wH hva;have hvb:=wH hvb;have hla:=wH hla;have hlb:=wH hlb;have hnn:=wH hnn;clear hma hmb hoa xp
 by_cases hab:xs.length<ys.length
 ·obtain ⟨w1,hrun,hown1,hg1⟩:=kQ w (ys.length+1) (by omega)
  rw [show ((ys.length+1:Nat):Int)=(ys.length:Int)+1 by omega] at hrun;have hb1:Below w.heap.size w w1:=cP hg1 (wL _) (fun k hk=>by cases hk);clear hg1;go_enter Tryz.func172,Tryz.ntmps172
  go_wp2
  go_loopw [8,9,10,20,46,51] (fun vc _ _ vi _ _ wr=>∃ (i:Nat) (o:List Int) (c:Int),i≤ys.length+1∧vi=.int .i64 i∧vc=.int .i64 c∧aF wr w.heap.size (.slice (some ⟨w.heap.size,0,none⟩) (ys.length+1) (ys.length+1)) (o ++ List.replicate (ys.length+1 - i) 0)∧Wh.eo xs ys s i o c∧Below w.heap.size w wr) (fun _ _ _ vi _ _ _=>ys.length+1 - (intOf vi).toNat)
  case atStart=>exact ⟨0,[],0,by omega,rfl,rfl,by simpa using hown1,Wh.eo.start xs ys s,hb1⟩
  case round=>
  clear hown1 hb1;obtain ⟨i,o,c,hi,rfl,rfl,hown,hai,hbr⟩:=hrel
  by_cases hlt:i<ys.length+1
  ·have hrg:=hai.rng hs hla.out hlb.out
   have hl0:=mX hai.len hi;have hc0:=aF.cellAt hl0.symm hown (mb hai.len hlt);have hf0:wr.frozen? ⟨w.heap.size,i,none⟩=false:=es hl0 hown i
   have hst:=wH fun x=>aF.set hl0.symm hown x (mr hai.len hlt x)
   have hstep:=wH fun x c' h1 h2 h3 h4=>hai.step (x:=x) (c':=c') h1 h2 h3 h4
   have A3:=hbr.size;have xY:=wH hbr;clear hown hl0 hai
   by_cases ha:i<xs.length
   ·obtain ⟨ga,xa,ea,hga,hxa,hca⟩:=hva.out i ha
    subst ea;have hca:=aE hbr hca;rw [Wh.cl hxa.out] at hrg hstep;clear hxa
    by_cases hb:i<ys.length
    ·obtain ⟨gb,xb,eb,hgb,hxb,hcb⟩:=hvb.out i hb
     subst eb;have hcb:=aE hbr hcb;have hlx:=hlb.out xb (List.mem_of_getElem? hxb.out);unfold Wh.lim at hlx
     have hsx:-9999≤s*xb∧s*xb≤9999:=by rcases hs with rfl | rfl <;> omega
     rw [Wh.cl hxb.out] at hrg hstep;generalize hsb:s*xb=sb at *;clear hxb hlx
     by_cases hx0:c+xa+sb<0
     ·skip
      have hS:=hstep.out (c+xa+sb+10000) (-1) ⟨by omega,by omega⟩ (by omega) (by intro h1;first | omega | (rcases hs with h | h <;> omega)) (by intro h1;first | omega | (rcases hs with h | h <;> omega));have hS:=wH hS;have hO:=wH (hst.out (c+xa+sb+10000));clear hstep hst;go_wp2
      go_roundw
      case rel=>exact ⟨i+1,_,_,by omega,by go_num,by go_num,hO.out.1,hS.out,xY.out.setCell (wL _) _⟩
      case measure=>simp [intOf];omega
     by_cases hx1:10000≤c+xa+sb
     ·skip
      have hS:=hstep.out (c+xa+sb - 10000) (1) ⟨by omega,by omega⟩ (by omega) (by intro h1;first | omega | (rcases hs with h | h <;> omega)) (by intro h1;first | omega | (rcases hs with h | h <;> omega));have hS:=wH hS;have hO:=wH (hst.out (c+xa+sb - 10000));clear hstep hst;go_wp2
      go_roundw
      case rel=>exact ⟨i+1,_,_,by omega,by go_num,by go_num,hO.out.1,hS.out,xY.out.setCell (wL _) _⟩
      case measure=>simp [intOf];omega
     skip
     have hS:=hstep.out (c+xa+sb) (0) ⟨by omega,by omega⟩ (by omega) (by intro h1;first | omega | (rcases hs with h | h <;> omega)) (by intro h1;first | omega | (rcases hs with h | h <;> omega));have hS:=wH hS;have hO:=wH (hst.out (c+xa+sb));clear hstep hst;go_wp2
     go_roundw
     case rel=>exact ⟨i+1,_,_,by omega,by go_num,by go_num,hO.out.1,hS.out,xY.out.setCell (wL _) _⟩
     case measure=>simp [intOf];omega
    rw [Wh.ck (l:=ys) (by omega),Int.mul_zero] at hrg hstep
    exfalso;omega
   rw [Wh.ck (by omega)] at hrg hstep
   by_cases hb:i<ys.length
   ·obtain ⟨gb,xb,eb,hgb,hxb,hcb⟩:=hvb.out i hb
    subst eb;have hcb:=aE hbr hcb;have hlx:=hlb.out xb (List.mem_of_getElem? hxb.out);unfold Wh.lim at hlx
    have hsx:-9999≤s*xb∧s*xb≤9999:=by rcases hs with rfl | rfl <;> omega
    rw [Wh.cl hxb.out] at hrg hstep;generalize hsb:s*xb=sb at *;clear hxb hlx
    by_cases hx0:c+sb<0
    ·skip
     have hS:=hstep.out (c+sb+10000) (-1) ⟨by omega,by omega⟩ (by omega) (by intro h1;first | omega | (rcases hs with h | h <;> omega)) (by intro h1;first | omega | (rcases hs with h | h <;> omega));have hS:=wH hS;have hO:=wH (hst.out (c+sb+10000));clear hstep hst;go_wp2
     go_roundw
     case rel=>exact ⟨i+1,_,_,by omega,by go_num,by go_num,hO.out.1,hS.out,xY.out.setCell (wL _) _⟩
     case measure=>simp [intOf];omega
    by_cases hx1:10000≤c+sb
    ·skip
     have hS:=hstep.out (c+sb - 10000) (1) ⟨by omega,by omega⟩ (by omega) (by intro h1;first | omega | (rcases hs with h | h <;> omega)) (by intro h1;first | omega | (rcases hs with h | h <;> omega));have hS:=wH hS;have hO:=wH (hst.out (c+sb - 10000));clear hstep hst;go_wp2
     go_roundw
     case rel=>exact ⟨i+1,_,_,by omega,by go_num,by go_num,hO.out.1,hS.out,xY.out.setCell (wL _) _⟩
     case measure=>simp [intOf];omega
    skip
    have hS:=hstep.out (c+sb) (0) ⟨by omega,by omega⟩ (by omega) (by intro h1;first | omega | (rcases hs with h | h <;> omega)) (by intro h1;first | omega | (rcases hs with h | h <;> omega));have hS:=wH hS;have hO:=wH (hst.out (c+sb));clear hstep hst;go_wp2
    go_roundw
    case rel=>exact ⟨i+1,_,_,by omega,by go_num,by go_num,hO.out.1,hS.out,xY.out.setCell (wL _) _⟩
    case measure=>simp [intOf];omega
   rw [Wh.ck (l:=ys) (by omega),Int.mul_zero] at hrg hstep
   by_cases hx0:c<0
   ·skip
    have hS:=hstep.out (c+10000) (-1) ⟨by omega,by omega⟩ (by omega) (by intro h1;first | omega | (rcases hs with h | h <;> omega)) (by intro h1;first | omega | (rcases hs with h | h <;> omega));have hS:=wH hS;have hO:=wH (hst.out (c+10000));clear hstep hst;go_wp2
    go_roundw
    case rel=>exact ⟨i+1,_,_,by omega,by go_num,by go_num,hO.out.1,hS.out,xY.out.setCell (wL _) _⟩
    case measure=>simp [intOf];omega
   by_cases hx1:10000≤c
   ·exfalso;omega
   skip
   have hS:=hstep.out (c) (0) ⟨by omega,by omega⟩ (by omega) (by intro h1;first | omega | (rcases hs with h | h <;> omega)) (by intro h1;first | omega | (rcases hs with h | h <;> omega));have hS:=wH hS;have hO:=wH (hst.out (c));clear hstep hst;go_wp2
   go_roundw
   case rel=>exact ⟨i+1,_,_,by omega,by go_num,by go_num,hO.out.1,hS.out,xY.out.setCell (wL _) _⟩
   case measure=>simp [intOf];omega
  obtain rfl:i=ys.length+1:=by omega
  have hf:=hai.fin hs (by omega) (by omega) hnn.out (Wh.sum_lt hs hla.out hlb.out (by omega) (by omega));have hlen:=hai.len;rw [Nat.sub_self] at hown;have hres:Hid (jS wr w.heap.size (.slice (some ⟨w.heap.size,0,none⟩) (ys.length+1) (ys.length+1)) (Wh.val xs+s*Wh.val ys) (xs.length+ys.length+1)):=wH ⟨o,by simpa using hown,hai.ls,hf.2,by omega⟩;clear hown hai hf hlen;go_wp2;go_ret;exact ⟨_,rfl,hres.out,hbr⟩
 obtain ⟨w1,hrun,hown1,hg1⟩:=kQ w (xs.length+1) (by omega);rw [show ((xs.length+1:Nat):Int)=(xs.length:Int)+1 by omega] at hrun;have hb1:Below w.heap.size w w1:=cP hg1 (wL _) (fun k hk=>by cases hk);clear hg1;go_enter Tryz.func172,Tryz.ntmps172
 go_wp2
 go_loopw [8,9,10,20,46,51] (fun vc _ _ vi _ _ wr=>∃ (i:Nat) (o:List Int) (c:Int),i≤xs.length+1∧vi=.int .i64 i∧vc=.int .i64 c∧aF wr w.heap.size (.slice (some ⟨w.heap.size,0,none⟩) (xs.length+1) (xs.length+1)) (o ++ List.replicate (xs.length+1 - i) 0)∧Wh.eo xs ys s i o c∧Below w.heap.size w wr) (fun _ _ _ vi _ _ _=>xs.length+1 - (intOf vi).toNat)
 case atStart=>exact ⟨0,[],0,by omega,rfl,rfl,by simpa using hown1,Wh.eo.start xs ys s,hb1⟩
 case round=>
 clear hown1 hb1;obtain ⟨i,o,c,hi,rfl,rfl,hown,hai,hbr⟩:=hrel
 by_cases hlt:i<xs.length+1
 ·have hrg:=hai.rng hs hla.out hlb.out
  have hl0:=mX hai.len hi;have hc0:=aF.cellAt hl0.symm hown (mb hai.len hlt);have hf0:wr.frozen? ⟨w.heap.size,i,none⟩=false:=es hl0 hown i
  have hst:=wH fun x=>aF.set hl0.symm hown x (mr hai.len hlt x)
  have hstep:=wH fun x c' h1 h2 h3 h4=>hai.step (x:=x) (c':=c') h1 h2 h3 h4
  have A3:=hbr.size;have xY:=wH hbr;clear hown hl0 hai
  by_cases ha:i<xs.length
  ·obtain ⟨ga,xa,ea,hga,hxa,hca⟩:=hva.out i ha
   subst ea;have hca:=aE hbr hca;rw [Wh.cl hxa.out] at hrg hstep;clear hxa
   by_cases hb:i<ys.length
   ·obtain ⟨gb,xb,eb,hgb,hxb,hcb⟩:=hvb.out i hb
    subst eb;have hcb:=aE hbr hcb;have hlx:=hlb.out xb (List.mem_of_getElem? hxb.out);unfold Wh.lim at hlx
    have hsx:-9999≤s*xb∧s*xb≤9999:=by rcases hs with rfl | rfl <;> omega
    rw [Wh.cl hxb.out] at hrg hstep;generalize hsb:s*xb=sb at *;clear hxb hlx
    by_cases hx0:c+xa+sb<0
    ·skip
     have hS:=hstep.out (c+xa+sb+10000) (-1) ⟨by omega,by omega⟩ (by omega) (by intro h1;first | omega | (rcases hs with h | h <;> omega)) (by intro h1;first | omega | (rcases hs with h | h <;> omega));have hS:=wH hS;have hO:=wH (hst.out (c+xa+sb+10000));clear hstep hst;go_wp2
     go_roundw
     case rel=>exact ⟨i+1,_,_,by omega,by go_num,by go_num,hO.out.1,hS.out,xY.out.setCell (wL _) _⟩
     case measure=>simp [intOf];omega
    by_cases hx1:10000≤c+xa+sb
    ·skip
     have hS:=hstep.out (c+xa+sb - 10000) (1) ⟨by omega,by omega⟩ (by omega) (by intro h1;first | omega | (rcases hs with h | h <;> omega)) (by intro h1;first | omega | (rcases hs with h | h <;> omega));have hS:=wH hS;have hO:=wH (hst.out (c+xa+sb - 10000));clear hstep hst;go_wp2
     go_roundw
     case rel=>exact ⟨i+1,_,_,by omega,by go_num,by go_num,hO.out.1,hS.out,xY.out.setCell (wL _) _⟩
     case measure=>simp [intOf];omega
    skip
    have hS:=hstep.out (c+xa+sb) (0) ⟨by omega,by omega⟩ (by omega) (by intro h1;first | omega | (rcases hs with h | h <;> omega)) (by intro h1;first | omega | (rcases hs with h | h <;> omega));have hS:=wH hS;have hO:=wH (hst.out (c+xa+sb));clear hstep hst;go_wp2
    go_roundw
    case rel=>exact ⟨i+1,_,_,by omega,by go_num,by go_num,hO.out.1,hS.out,xY.out.setCell (wL _) _⟩
    case measure=>simp [intOf];omega
   rw [Wh.ck (l:=ys) (by omega),Int.mul_zero] at hrg hstep
   by_cases hx0:c+xa<0
   ·skip
    have hS:=hstep.out (c+xa+10000) (-1) ⟨by omega,by omega⟩ (by omega) (by intro h1;first | omega | (rcases hs with h | h <;> omega)) (by intro h1;first | omega | (rcases hs with h | h <;> omega));have hS:=wH hS;have hO:=wH (hst.out (c+xa+10000));clear hstep hst;go_wp2
    go_roundw
    case rel=>exact ⟨i+1,_,_,by omega,by go_num,by go_num,hO.out.1,hS.out,xY.out.setCell (wL _) _⟩
    case measure=>simp [intOf];omega
   by_cases hx1:10000≤c+xa
   ·skip
    have hS:=hstep.out (c+xa - 10000) (1) ⟨by omega,by omega⟩ (by omega) (by intro h1;first | omega | (rcases hs with h | h <;> omega)) (by intro h1;first | omega | (rcases hs with h | h <;> omega));have hS:=wH hS;have hO:=wH (hst.out (c+xa - 10000));clear hstep hst;go_wp2
    go_roundw
    case rel=>exact ⟨i+1,_,_,by omega,by go_num,by go_num,hO.out.1,hS.out,xY.out.setCell (wL _) _⟩
    case measure=>simp [intOf];omega
   skip
   have hS:=hstep.out (c+xa) (0) ⟨by omega,by omega⟩ (by omega) (by intro h1;first | omega | (rcases hs with h | h <;> omega)) (by intro h1;first | omega | (rcases hs with h | h <;> omega));have hS:=wH hS;have hO:=wH (hst.out (c+xa));clear hstep hst;go_wp2
   go_roundw
   case rel=>exact ⟨i+1,_,_,by omega,by go_num,by go_num,hO.out.1,hS.out,xY.out.setCell (wL _) _⟩
   case measure=>simp [intOf];omega
  rw [Wh.ck (by omega)] at hrg hstep
  by_cases hb:i<ys.length
  ·obtain ⟨gb,xb,eb,hgb,hxb,hcb⟩:=hvb.out i hb
   subst eb;have hcb:=aE hbr hcb;have hlx:=hlb.out xb (List.mem_of_getElem? hxb.out);unfold Wh.lim at hlx
   have hsx:-9999≤s*xb∧s*xb≤9999:=by rcases hs with rfl | rfl <;> omega
   rw [Wh.cl hxb.out] at hrg hstep;generalize hsb:s*xb=sb at *;clear hxb hlx
   exfalso;omega
  rw [Wh.ck (l:=ys) (by omega),Int.mul_zero] at hrg hstep
  by_cases hx0:c<0
  ·skip
   have hS:=hstep.out (c+10000) (-1) ⟨by omega,by omega⟩ (by omega) (by intro h1;first | omega | (rcases hs with h | h <;> omega)) (by intro h1;first | omega | (rcases hs with h | h <;> omega));have hS:=wH hS;have hO:=wH (hst.out (c+10000));clear hstep hst;go_wp2
   go_roundw
   case rel=>exact ⟨i+1,_,_,by omega,by go_num,by go_num,hO.out.1,hS.out,xY.out.setCell (wL _) _⟩
   case measure=>simp [intOf];omega
  by_cases hx1:10000≤c
  ·exfalso;omega
  skip
  have hS:=hstep.out (c) (0) ⟨by omega,by omega⟩ (by omega) (by intro h1;first | omega | (rcases hs with h | h <;> omega)) (by intro h1;first | omega | (rcases hs with h | h <;> omega));have hS:=wH hS;have hO:=wH (hst.out (c));clear hstep hst;go_wp2
  go_roundw
  case rel=>exact ⟨i+1,_,_,by omega,by go_num,by go_num,hO.out.1,hS.out,xY.out.setCell (wL _) _⟩
  case measure=>simp [intOf];omega
 obtain rfl:i=xs.length+1:=by omega
 have hf:=hai.fin hs (by omega) (by omega) hnn.out (Wh.sum_lt hs hla.out hlb.out (by omega) (by omega));have hlen:=hai.len;rw [Nat.sub_self] at hown;have hres:Hid (jS wr w.heap.size (.slice (some ⟨w.heap.size,0,none⟩) (xs.length+1) (xs.length+1)) (Wh.val xs+s*Wh.val ys) (xs.length+ys.length+1)):=wH ⟨o,by simpa using hown,hai.ls,hf.2,by omega⟩;clear hown hai hf hlen;go_wp2;go_ret;exact ⟨_,rfl,hres.out,hbr⟩
noncomputable def gC (n d:Int):Bool:=M.ins d 1 1000000000 && M.ins n (-1000000000) 1000000000 && (M.gcd n d == 1)
theorem ew (n d:Int) (w:World) :
  Calls Tryz.prog 121 #[.agg #[.int .i64 n,.int .i64 d]] w fun e w'=>e=.returned (.bool (gC n d))∧Below w.heap.size w w':=by
 unfold gC
 cases h1:M.ins d 1 1000000000
 ·go_enter Tryz.func121,Tryz.ntmps121
  go_wp2_with (go_at_call 56;refine (cK _ _ _ _).mono ?_;rintro e w' ⟨rfl,rfl⟩)
  go_ret;exact ⟨dT (by simp),(by repeat (first | exact wK _ _ | refine aV ?_ _ | refine aW ?_ (by assumption) | refine Below.drew ?_ | refine wJ ?_ (by first | exact wL _ | exact Nat.le_add_right _ _ | (simp <;> omega)) _ | refine aM ?_ _))⟩
 obtain ⟨d1,d2⟩:=M.fH h1
 cases h2:M.ins n (-1000000000) 1000000000
 ·go_enter Tryz.func121,Tryz.ntmps121
  go_wp2_with (go_at_call 56;refine (cK _ _ _ _).mono ?_;rintro e w' ⟨rfl,rfl⟩)
  go_ret;exact ⟨dT (by simp),(by repeat (first | exact wK _ _ | refine aV ?_ _ | refine aW ?_ (by assumption) | refine Below.drew ?_ | refine wJ ?_ (by first | exact wL _ | exact Nat.le_add_right _ _ | (simp <;> omega)) _ | refine aM ?_ _))⟩
 obtain ⟨n1,n2⟩:=M.fH h2;go_enter Tryz.func121,Tryz.ntmps121
 go_wp2_with (first | (go_at_call 56;refine (cK _ _ _ _).mono ?_;rintro e w' ⟨rfl,rfl⟩) | (go_at_call 114;refine (ji _ _ _ (by omega) (by omega) (by omega) (by omega)).mono ?_;rintro e w' ⟨rfl,mq,rfl⟩))
 go_ret;exact ⟨dT (by simp),(by repeat (first | exact wK _ _ | refine aV ?_ _ | refine aW ?_ (by assumption) | refine Below.drew ?_ | refine wJ ?_ (by first | exact wL _ | exact Nat.le_add_right _ _ | (simp <;> omega)) _ | refine aM ?_ _))⟩
theorem dj {P:Program} {f:FuncId} {args:Array Value} {w:World} {n:Nat} {v:Value} (h:Calls P f args (w.drewN n) fun e w'=>e=.returned v∧w.drewN n=w') :
  Calls P f args (w.drewN n) fun e w''=>e=.returned v∧∃ m,w''=w.drewN m:=h.mono fun _ _ ⟨he,hm⟩=>⟨he,n,hm.symm⟩
theorem dR {P:Program} {f:FuncId} {args:Array Value} {w:World} {a n:Nat} {v:Value} (h:Calls P f args (w.drewN (a+n)) fun e w'=>e=.returned v∧w.drewN (a+n)=w') :
  Calls P f args (w.drewN (a+n)) fun e w''=>e=.returned v∧∃ m,w''=w.drewN (a+m):=h.mono fun _ _ ⟨he,hm⟩=>⟨he,n,hm.symm⟩
theorem mN (n d:Int) (w:World) :
  Calls Tryz.prog 132 #[.agg #[.int .i64 n,.int .i64 d]] w fun e w'=>e=.returned (.bool (gC n d))∧Below w.heap.size w w':=by
 unfold gC
 have E1:=fun w=>ch d 1 1000000000 w
 have E2:=fun w=>ch n (-1000000000) 1000000000 w
 have hgg:M.gcd n.natAbs d.natAbs=M.gcd n d:=by simp [M.gcd,Int.gcd]
 cases h1:M.ins d 1 1000000000 <;> simp only [h1] at E1 <;> have E1:=wH E1
 ·have E2:=wH E2
  go_enter Tryz.func132,Tryz.ntmps132
  go_wp2
  go_quiet ((go_at_call 78;first | (with_reducible exact dj (E1.out _)) | (with_reducible exact dR (E1.out _)) | (with_reducible exact dj (E2.out _)) | (with_reducible exact dR (E2.out _))))
  go_wp2;go_ret;exact ⟨dT (by simp),(by repeat (first | exact wK _ _ | refine aV ?_ _ | refine aW ?_ (by assumption) | refine Below.drew ?_ | refine wJ ?_ (by first | exact wL _ | exact Nat.le_add_right _ _ | (simp <;> omega)) _ | refine aM ?_ _))⟩
 obtain ⟨d1,d2⟩:=M.fH h1
 cases h2:M.ins n (-1000000000) 1000000000 <;> simp only [h2] at E2 <;> have E2:=wH E2
 ·go_enter Tryz.func132,Tryz.ntmps132
  go_wp2
  go_quiet ((go_at_call 78;first | (with_reducible exact dj (E1.out _)) | (with_reducible exact dR (E1.out _)) | (with_reducible exact dj (E2.out _)) | (with_reducible exact dR (E2.out _))))
  go_wp2;go_ret;exact ⟨dT (by simp),(by repeat (first | exact wK _ _ | refine aV ?_ _ | refine aW ?_ (by assumption) | refine Below.drew ?_ | refine wJ ?_ (by first | exact wL _ | exact Nat.le_add_right _ _ | (simp <;> omega)) _ | refine aM ?_ _))⟩
 obtain ⟨n1,n2⟩:=M.fH h2
 have hd:(d.natAbs:Int)=d:=by omega
 rw [hd] at hgg;have hgg:=wH hgg;go_enter Tryz.func132,Tryz.ntmps132
 go_wp2
 go_quiet ((first | (go_at_call 78;first | (with_reducible exact dj (E1.out _)) | (with_reducible exact dR (E1.out _)) | (with_reducible exact dj (E2.out _)) | (with_reducible exact dR (E2.out _))) | (go_at_call 131;first | exact dj (dE _ _ (by omega) (by omega)) | exact dR (dE _ _ (by omega) (by omega))) | (go_at_call 130;first | exact dj (dH _ _ _ (by omega) (by omega) (by omega) (by omega)) | exact dR (dH _ _ _ (by omega) (by omega) (by omega) (by omega)))))
 go_wp2;go_ret;exact ⟨dT (by simp [hgg.out]),(by repeat (first | exact wK _ _ | refine aV ?_ _ | refine aW ?_ (by assumption) | refine Below.drew ?_ | refine wJ ?_ (by first | exact wL _ | exact Nat.le_add_right _ _ | (simp <;> omega)) _ | refine aM ?_ _))⟩
theorem mU (x:Int) (w:World):Calls Tryz.prog 202 #[.int .i64 x] w fun e w'=>e=.returned (.bool false)∧w=w':=by
 go_enter Tryz.func202,Tryz.ntmps202
 go_wp2;go_ret;exact ⟨by simp,rfl⟩
theorem qs (x y:Int) (w:World):Calls Tryz.prog 195 #[.int .i64 x,.int .i64 y] w fun e w'=>e=.returned (.int .i64 (Wh.xr x y))∧w=w':=by
 unfold Wh.xr
 by_cases h1:x<y
 ·go_enter Tryz.func195,Tryz.ntmps195
  go_wp2_with (go_at_call 202;refine (mU _ _).mono ?_;rintro e w' ⟨rfl,rfl⟩)
  go_ret;exact ⟨by simp [h1],rfl⟩
 by_cases h2:y<x
 all_goals
  go_enter Tryz.func195,Tryz.ntmps195
  go_wp2_with (go_at_call 202;refine (mU _ _).mono ?_;rintro e w' ⟨rfl,rfl⟩)
  go_ret;exact ⟨by simp [h1,h2],rfl⟩
namespace Wh
theorem tg {m n:Nat} (h:(a_ m).length≠(a_ n).length):xr ((a_ m).length:Int) ((a_ n).length:Int)=xr (m:Int) (n:Int):=by
 by_cases h':(a_ m).length<(a_ n).length
 ·have:=jd h'
  rw [fg (by omega),fg (by omega)]
 have:=jd (m:=n) (n:=m) (by omega);rw [lR (by omega),lR (by omega)]
end Wh
theorem dN (m n:Nat) (b1 b2:Bool) (va vb:Value) (w:World) (ba bb:Nat) (hoa:aF w ba va (Wh.a_ m)) (xp:aF w bb vb (Wh.a_ n)) (hl1:(Wh.a_ m).length≤100000) (hl2:(Wh.a_ n).length≤100000) :
  Calls Tryz.prog 173 #[.agg #[.bool b1,va],.agg #[.bool b2,vb]] w fun e w'=>e=.returned (.int .i64 (Wh.xr (m:Int) (n:Int)))∧Below w.heap.size w w':=by
 obtain ⟨aa,o_,rfl,hma,hva⟩:=hoa.seen;obtain ⟨ab,wO,rfl,hmb,hvb⟩:=xp.seen;have hva:=wH hva;have hvb:=wH hvb;have hla:=wH (Wh.bD m);have hlb:=wH (Wh.bD n);have hv1:=wH (Wh.bR m);have hv2:=wH (Wh.bR n);clear hma hmb hoa xp;have bx:=(ar.new w (.bool b1) (.slice aa (Wh.a_ m).length o_) 125).alloc (.cells #[.bool b2,.slice ab (Wh.a_ n).length wO] 125);have bz:=ar.new2 w (.cells #[.bool b1,.slice aa (Wh.a_ m).length o_] 125) (.bool b2) (.slice ab (Wh.a_ n).length wO) 125
 by_cases hne:(Wh.a_ m).length=(Wh.a_ n).length
 ·generalize Wh.a_ m=xs at *
  generalize Wh.a_ n=ys at *;generalize hxl:xs.length=L at *;have hyl:=hne.symm;have Nf:=wH hyl;rw [←hne] at bx bz hl2 hvb ⊢;clear hne hyl;have hyl:Hid (ys.length=L):=wH Nf.out;have hxl:=wH hxl;go_enter Tryz.func173,Tryz.ntmps173
  go_wp2
  go_loopw [5] (fun vi wr=>∃ k:Nat,k≤L∧vi=.int .i64 ((k:Int) - 1)∧(∀ q:Nat,k≤q→q<L→Wh.nth xs q=Wh.nth ys q)∧Hid (ar wr w.heap.size (.bool b1) (.slice aa L o_))∧Hid (ar wr (w.heap.size+1) (.bool b2) (.slice ab L wO))∧Below w.heap.size w wr) (fun vi _=>(intOf vi+1).toNat)
  case atStart=>exact ⟨L,wL _,rfl,fun q h1 h2=>by omega,wH bx,wH bz,(by repeat (first | exact wK _ _ | refine aV ?_ _ | refine aW ?_ (by assumption) | refine Below.drew ?_ | refine wJ ?_ (by first | exact wL _ | exact Nat.le_add_right _ _ | (simp <;> omega)) _ | refine aM ?_ _))⟩
  case round=>
  clear bx bz;obtain ⟨k,hk,rfl,heq,xy,Ba,hbr⟩:=hrel;have heq:=wH heq
  cases k with
  | zero=>
   have hz:Hid (Wh.xr (m:Int) (n:Int)=0):=wH (by
    rw [←hv1.out,←hv2.out]
    exact Wh.cmp_eq (n:=L) (by rw [hxl.out];exact wL _) (by rw [hyl.out];exact wL _) fun q h=>heq.out q (Nat.zero_le _) h)
   go_wp2;go_ret;exact ⟨by rw [hz.out] <;> rfl,hbr⟩
  | succ j=>
  obtain ⟨ga,x,ea,hga,hxa,hca⟩:=hva.out j (by omega);obtain ⟨gb,y,eb,hgb,hxb,hcb⟩:=hvb.out j (by omega);subst ea eb;have hca:=aE hbr hca;have hcb:=aE hbr hcb;have d1:=xy.out.c1;have d2:=Ba.out.c1;have hnx:=wH (Wh.cl hxa.out);have hny:=wH (Wh.cl hxb.out)
  by_cases hxy:x=y
  ·subst hxy
   have heq2:Hid (∀ q:Nat,j≤q→q<L→Wh.nth xs q=Wh.nth ys q):=wH fun q h1 h2=>by
    by_cases hq:q=j
    ·subst hq;rw [hnx.out,hny.out]
    exact heq.out q (by omega) h2
   go_wp2
   go_quiet (fail)
   go_wp2
   go_roundw
   case rel=>exact ⟨j,by omega,by go_num,heq2.out,wH (xy.out.keep (aM (wK _ _) _)),wH (Ba.out.keep (aM (wK _ _) _)),aM hbr _⟩
   case measure=>first | (simp [intOf];done) | (simp [intOf];omega)
  have hz:Hid (Wh.xr (m:Int) (n:Int)=Wh.xr x y):=wH (by
   rw [←hv1.out,←hv2.out]
   have l1:xs.length≤L:=by rw [hxl.out];exact wL _
   have l2:ys.length≤L:=by rw [hyl.out];exact wL _
   by_cases hlt:x<y
   ·rw [Wh.fg hlt]
    exact Wh.qw hla.out hlb.out l1 l2 (i:=j) (by omega) (fun q h1 h2=>heq.out q (by omega) h2) (by rw [hnx.out,hny.out];exact hlt)
   rw [Wh.lR (x:=x) (y:=y) (by omega)]
   exact Wh.qv hla.out hlb.out l1 l2 (i:=j) (by omega) (fun q h1 h2=>heq.out q (by omega) h2) (by rw [hnx.out,hny.out];omega))
  have PC:=fun W=>qs x y W
  generalize Wh.xr x y=z at *;have PC:=wH PC;go_wp2
  go_quiet (fail)
  go_wp2
  go_quiet ((go_at_call 195;first | (with_reducible exact dj (PC.out _)) | (with_reducible exact dR (PC.out _))))
  go_wp2;go_ret;exact ⟨by rw [hz.out] <;> rfl,aM (aM hbr _) _⟩
 have PC:=fun W=>qs (Wh.a_ m).length (Wh.a_ n).length W
 rw [Wh.tg hne] at PC;generalize Wh.xr (m:Int) (n:Int)=z at *;generalize (Wh.a_ n).length=l2,(Wh.a_ m).length=l1 at *;have PC:=wH PC;clear hva hvb hla hlb hv1 hv2;go_enter Tryz.func173,Tryz.ntmps173
 go_wp2_with (go_at_call 195;(with_reducible refine (PC.out _).mono ?_);rintro e w1 ⟨rfl,rfl⟩)
 go_ret;exact ⟨rfl,(by repeat (first | exact wK _ _ | refine aV ?_ _ | refine aW ?_ (by assumption) | refine Below.drew ?_ | refine wJ ?_ (by first | exact wL _ | exact Nat.le_add_right _ _ | (simp <;> omega)) _ | refine aM ?_ _))⟩
theorem fC (z y:Int) (n:Nat) (neg:Bool) (v:Value) (w:World) (base:Nat) (ho:jS w base v y n) (hn:n≤1000000) (hz:Wh.yG neg y=z) :
  Calls Tryz.prog 171 #[.bool neg,v] w fun e w'=>∃ sl,e=.returned (.agg #[.bool (decide (z<0)),sl])∧ak w' w.heap.size sl z∧Below w.heap.size w w':=by
 obtain ⟨o,h1,h2,h3,h4⟩:=ho;exact fE z neg o v w base h1 h2 (by omega) (by rw [h3];exact hz)
theorem af {W:World} {p:Addr} {v:Value} (h:W.cell? p=some v):(W.drew).cell? p=some v:=h
theorem ar.store {w:World} {b:Nat} {u v:Value} (h:ar w b u v) (x y:Value):ar ((w.setCell ⟨b,0,none⟩ x).setCell ⟨b,1,none⟩ y) b x y:=by
 obtain ⟨h1,h2,h3,h4,h5⟩:=h;exact ⟨by simp [go_sem, *],by simp [go_sem, *],by simp [go_sem, *],by simp [go_sem, *],by simp [go_sem, *]⟩
theorem ar.other {w:World} {b c:Nat} {u v:Value} (h:ar w b u v) (hn:b≠c) (x y:Value):ar ((w.setCell ⟨c,0,none⟩ x).setCell ⟨c,1,none⟩ y) b u v:=
 have hg:=cG w c x y
 have hn':some b≠some c:=by simpa using hn
 ⟨hg.cell h.c0 hn',hg.cell h.c1 hn',(Gr.frozen hg h.size hn').trans h.f0,(Gr.frozen hg h.size hn').trans h.f1,Gr.iv hg h.size⟩
theorem ar.drew {w:World} {b:Nat} {u v:Value} (h:ar w b u v):ar w.drew b u v:=⟨h.c0,h.c1,h.f0,h.f1,h.size⟩
namespace Wh
theorem add_same {a b:Int} {s:Bool} (ha:decide (a<0)=s) (hb:decide (b<0)=s):yG s ((a.natAbs:Int)+1*(b.natAbs:Int))=a+b:=by
 cases s
 ·simp only [decide_eq_false_iff_not] at ha hb;simp only [yG,Bool.false_eq_true,if_false];omega
 simp only [decide_eq_true_eq] at ha hb;simp only [yG,if_true];omega
theorem db {a b:Int} {s:Bool} (ha:decide (a<0)=s) (hb:decide (b<0)=!s):yG s ((a.natAbs:Int)+-1*(b.natAbs:Int))=a+b:=by
 cases s
 ·simp only [decide_eq_false_iff_not,Bool.not_false,decide_eq_true_eq] at ha hb;simp only [yG,Bool.false_eq_true,if_false];omega
 simp only [decide_eq_true_eq,Bool.not_true,decide_eq_false_iff_not] at ha hb;simp only [yG,if_true];omega
end Wh
theorem fS (a b:Int) (va vb:Value) (w:World) (ba bb:Nat) (hoa:ak w ba va a) (xp:ak w bb vb b) (hl1:(Wh.a_ a.natAbs).length≤10000) (hl2:(Wh.a_ b.natAbs).length≤10000) :
  Calls Tryz.prog 140 #[.agg #[.bool (decide (a<0)),va],.agg #[.bool (decide (b<0)),vb]] w fun e w'=>∃ sl,e=.returned (.agg #[.bool (decide (a+b<0)),sl])∧ak w' w.heap.size sl (a+b)∧Below w.heap.size w w':=by
 obtain ⟨aa,o_,rfl,-,-⟩:=aF.view hoa;obtain ⟨ab,wO,rfl,-,-⟩:=aF.view xp
 have PA:=fun s hs h0 W h1 h2=>jV (Wh.a_ a.natAbs) (Wh.a_ b.natAbs) s (.slice aa (Wh.a_ a.natAbs).length o_) (.slice ab (Wh.a_ b.natAbs).length wO) W ba bb hs h1 h2 (Wh.bD _) (Wh.bD _) h0 (by omega) (by omega)
 rw [Wh.bR,Wh.bR] at PA
 have PT:=fun s y (h:Wh.yG s y=a+b) W v base ho=>fC (a+b) y ((Wh.a_ a.natAbs).length+(Wh.a_ b.natAbs).length+1) s v W base ho (by omega) h
 have AG:Hid (∀ W,Below w.heap.size w W→aF W ba (.slice aa (Wh.a_ a.natAbs).length o_) (Wh.a_ a.natAbs)):=wH fun W h=>aF.below hoa h
 have Al:Hid (∀ W,Below w.heap.size w W→aF W bb (.slice ab (Wh.a_ b.natAbs).length wO) (Wh.a_ b.natAbs)):=wH fun W h=>aF.below xp h
 obtain ⟨s1,hs1⟩:∃ s,decide (a<0)=s:=⟨_,rfl⟩
 obtain ⟨s2,hs2⟩:∃ s,decide (b<0)=s:=⟨_,rfl⟩
 clear hoa xp
 by_cases hss:s1=s2
 ·subst hss
  have PT:=wH (PT s1 _ (Wh.add_same hs1 hs2));have PA:=wH (PA 1 (Or.inl rfl) (by omega));rw [hs1,hs2];clear hs1 hs2;generalize (a.natAbs:Int)+1*(b.natAbs:Int)=y at *;generalize Wh.a_ b.natAbs=ys,Wh.a_ a.natAbs=xs,a+b=z at *;generalize decide (z<0)=s,ys.length=l2,xs.length=l1 at *;have b1:=((ar.new w (.bool s1) (.slice aa l1 o_) 125).alloc (.cells #[.bool s1,.slice ab l2 wO] 125)).alloc (.cells #[.bool false,.slice none 0 0] 125);have b2:=(ar.new2 w (.cells #[.bool s1,.slice aa l1 o_] 125) (.bool s1) (.slice ab l2 wO) 125).alloc (.cells #[.bool false,.slice none 0 0] 125);have b3:=ar.new2 (w.alloc (.cells #[.bool s1,.slice aa l1 o_] 125)) (.cells #[.bool s1,.slice ab l2 wO] 125) (.bool false) (.slice none 0 0) 125;rw [wI] at b3;have hB:=(((wK w.heap.size w).alloc (wL _) (.cells #[.bool s1,.slice aa l1 o_] 125)).alloc (by rw [wI];omega) (.cells #[.bool s1,.slice ab l2 wO] 125)).alloc (by rw [wI,wI];omega) (.cells #[.bool false,.slice none 0 0] 125);generalize hw3:((w.alloc (.cells #[.bool s1,.slice aa l1 o_] 125)).alloc (.cells #[.bool s1,.slice ab l2 wO] 125)).alloc (.cells #[.bool false,.slice none 0 0] 125)=w3 at *;have e1:=b1.c0;have e2:=b1.c1;have e3:=b2.c0;have e4:=b2.c1;go_enter Tryz.func140,Tryz.ntmps140
  go_wp2
  go_region_held3 (fun W=>W.cell? ⟨w.heap.size,0,none⟩=some (.bool s1)∧W.cell? ⟨w.heap.size,1,none⟩=some (.slice aa l1 o_)∧W.cell? ⟨w.heap.size+1,0,none⟩=some (.bool s1)∧W.cell? ⟨w.heap.size+1,1,none⟩=some (.slice ab l2 wO)) (first | (refine ⟨?_,?_,?_,?_⟩ <;> (first | (with_reducible exact aE (by assumption) (by assumption)) | (with_reducible exact Gr.bJ (by assumption)) | (with_reducible refine Gr.bV (by assumption) ?_;(intro wt;(try simp only [wI,aO,World.heap_drewN,aI] at wt);omega)) | (with_reducible refine Gr.dD (by assumption) ?_ ?_ <;> (intro wt;(try simp only [wI,aO,World.heap_drewN,aI] at wt);omega)) | exact aE (by assumption) (by assumption) | (with_reducible exact bI (by assumption) (by assumption) (by assumption)))) | (go_split_ands;(refine ⟨?_,?_,?_,?_⟩ <;> (first | (with_reducible exact aE (by assumption) (by assumption)) | (with_reducible exact Gr.bJ (by assumption)) | (with_reducible refine Gr.bV (by assumption) ?_;(intro wt;(try simp only [wI,aO,World.heap_drewN,aI] at wt);omega)) | (with_reducible refine Gr.dD (by assumption) ?_ ?_ <;> (intro wt;(try simp only [wI,aO,World.heap_drewN,aI] at wt);omega)) | exact aE (by assumption) (by assumption) | (with_reducible exact bI (by assumption) (by assumption) (by assumption))))) | go_keep) ((first
   | (go_at_call 172;(with_reducible refine (PA.out _ (AG.out _ hB.drew) (Al.out _ hB.drew)).mono ?_);rintro e w4 ⟨v4,rfl,xF,hb4⟩;have B4:=hB.drew.trans (hb4.mono hB.size);have r4:=b3.drew.keep hb4;have yW:=aE hb4 (af e1);have zR:=aE hb4 (af e2);have Af:=aE hb4 (af e3);have Aw:=aE hb4 (af e4);(have z4:w3.heap.size≤w4.heap.size:=hb4.size))
   | (go_at_call 171;(with_reducible refine (PT.out _ _ _ xF).mono ?_);rintro e w5 ⟨vc,rfl,hoc,hbc⟩;obtain ⟨ac,wX,rfl,hmc,xV⟩:=aF.view hoc;have B5:=d_ B4 hbc;have r5:=r4.keep hbc;have c0:=r5.c0;have c1:=r5.c1;have g0:=r5.f0;have g1:=r5.f1;have Bg:=aE hbc yW;have Cf:=aE hbc zR;have EE:=aE hbc Af;have ES:=aE hbc Aw;clear xV hmc)
   | fail "ARMS"))
  all_goals
   have hr:=cF (w:=w) (w.heap.size+1+1) _ (.bool s) (by omega) (Nat.lt_of_lt_of_le b3.size z4) hoc B5;generalize (Wh.a_ z.natAbs).length=n2 at *;go_wp2;exact bodyPost_ret (v:=.agg #[.bool s,.slice ac n2 wX]) (by simp [results,Tryz.results140,go_sem, *]) rfl (⟨_,rfl,hr.1,hr.2⟩)
 have PA':=fun s hs h0 W h1 h2=>jV (Wh.a_ b.natAbs) (Wh.a_ a.natAbs) s (.slice ab (Wh.a_ b.natAbs).length wO) (.slice aa (Wh.a_ a.natAbs).length o_) W bb ba hs h1 h2 (Wh.bD _) (Wh.bD _) h0 (by omega) (by omega)
 rw [Wh.bR,Wh.bR] at PA'
 have EF:=fun s y (h:Wh.yG s y=a+b) W v base ho=>fC (a+b) y ((Wh.a_ b.natAbs).length+(Wh.a_ a.natAbs).length+1) s v W base ho (by omega) h
 have hx:(s1=false∧s2=true)∨(s1=true∧s2=false):=by cases s1 <;> cases s2 <;> simp_all
 clear hss
 rcases hx with ⟨rfl,rfl⟩ | ⟨rfl,rfl⟩
 ·skip
  have hd:=Wh.db (a:=a) (b:=b) hs1 hs2;have hd':=Wh.db (a:=b) (b:=a) hs2 hs1;rw [Int.add_comm b a] at hd'
  have PM:=fun W h1 h2=>dN a.natAbs b.natAbs false true (.slice aa (Wh.a_ a.natAbs).length o_) (.slice ab (Wh.a_ b.natAbs).length wO) W ba bb h1 h2 (by omega) (by omega)
  rw [hs1,hs2];clear hs1 hs2
  by_cases hlt:a.natAbs<b.natAbs
  ·skip
   have PT:=wH (EF true _ hd');have PA:=wH (PA' (-1) (Or.inr rfl) (by omega));rw [Wh.fg (by omega)] at PM;have PM:=wH PM;clear hlt hd hd';generalize (b.natAbs:Int)+-1*(a.natAbs:Int)=y at *;generalize Wh.a_ b.natAbs=ys,Wh.a_ a.natAbs=xs,a+b=z at *;generalize decide (z<0)=s,ys.length=l2,xs.length=l1 at *;have b1:=((ar.new w (.bool false) (.slice aa l1 o_) 125).alloc (.cells #[.bool true,.slice ab l2 wO] 125)).alloc (.cells #[.bool false,.slice none 0 0] 125);have b2:=(ar.new2 w (.cells #[.bool false,.slice aa l1 o_] 125) (.bool true) (.slice ab l2 wO) 125).alloc (.cells #[.bool false,.slice none 0 0] 125);have b3:=ar.new2 (w.alloc (.cells #[.bool false,.slice aa l1 o_] 125)) (.cells #[.bool true,.slice ab l2 wO] 125) (.bool false) (.slice none 0 0) 125;rw [wI] at b3;have hB:=(((wK w.heap.size w).alloc (wL _) (.cells #[.bool false,.slice aa l1 o_] 125)).alloc (by rw [wI];omega) (.cells #[.bool true,.slice ab l2 wO] 125)).alloc (by rw [wI,wI];omega) (.cells #[.bool false,.slice none 0 0] 125);generalize hw3:((w.alloc (.cells #[.bool false,.slice aa l1 o_] 125)).alloc (.cells #[.bool true,.slice ab l2 wO] 125)).alloc (.cells #[.bool false,.slice none 0 0] 125)=w3 at *;have i1:=b1.c0;have i2:=b1.c1;have i3:=b2.c0;have i4:=b2.c1;go_enter Tryz.func140,Tryz.ntmps140
   go_wp2_with (go_at_call 173;(with_reducible refine (PM.out _ (AG.out _ hB) (Al.out _ hB)).mono ?_);rintro e wm ⟨rfl,xx⟩;have m1:=b1.keep xx;have m2:=b2.keep xx;have m3:=b3.keep xx;have j1:=m1.c0;have j2:=m1.c1;have j3:=m2.c0;have j4:=m2.c1;have k1:=m1.f0;have k2:=m1.f1;have k3:=m2.f0;have k4:=m2.f1;have Bm:=d_ hB xx)
   have n1:=(m1.store (.bool true) (.slice ab l2 wO)).other (c:=w.heap.size+1) (by omega) (.bool false) (.slice aa l1 o_);have n2:=(m2.other (c:=w.heap.size) (by omega) (.bool true) (.slice ab l2 wO)).store (.bool false) (.slice aa l1 o_);have n3:=(m3.other (c:=w.heap.size) (by omega) (.bool true) (.slice ab l2 wO)).other (c:=w.heap.size+1) (by omega) (.bool false) (.slice aa l1 o_);have Bn:=(((Bm.setCell (p:=⟨w.heap.size,0,none⟩) (wL _) (.bool true)).setCell (p:=⟨w.heap.size,1,none⟩) (wL _) (.slice ab l2 wO)).setCell (p:=⟨w.heap.size+1,0,none⟩) (Nat.le_succ _) (.bool false)).setCell (p:=⟨w.heap.size+1,1,none⟩) (Nat.le_succ _) (.slice aa l1 o_);generalize hwn:((((wm.setCell ⟨w.heap.size,0,none⟩ (.bool true)).setCell ⟨w.heap.size,1,none⟩ (.slice ab l2 wO)).setCell ⟨w.heap.size+1,0,none⟩ (.bool false)).setCell ⟨w.heap.size+1,1,none⟩ (.slice aa l1 o_))=wn at *;clear i1 i2 i3 i4 j1 j2 j3 j4 k1 k2 k3 k4 m1 m2 m3 b1 b2 b3 xx;have e1:=n1.c0;have e2:=n1.c1;have e3:=n2.c0;have e4:=n2.c1
   go_region_held3 (fun W=>W.cell? ⟨w.heap.size,0,none⟩=some (.bool true)∧W.cell? ⟨w.heap.size,1,none⟩=some (.slice ab l2 wO)∧W.cell? ⟨w.heap.size+1,0,none⟩=some (.bool false)∧W.cell? ⟨w.heap.size+1,1,none⟩=some (.slice aa l1 o_)) (first | (refine ⟨?_,?_,?_,?_⟩ <;> (first | (with_reducible exact aE (by assumption) (by assumption)) | (with_reducible exact Gr.bJ (by assumption)) | (with_reducible refine Gr.bV (by assumption) ?_;(intro wt;(try simp only [wI,aO,World.heap_drewN,aI] at wt);omega)) | (with_reducible refine Gr.dD (by assumption) ?_ ?_ <;> (intro wt;(try simp only [wI,aO,World.heap_drewN,aI] at wt);omega)) | exact aE (by assumption) (by assumption) | (with_reducible exact bI (by assumption) (by assumption) (by assumption)))) | (go_split_ands;(refine ⟨?_,?_,?_,?_⟩ <;> (first | (with_reducible exact aE (by assumption) (by assumption)) | (with_reducible exact Gr.bJ (by assumption)) | (with_reducible refine Gr.bV (by assumption) ?_;(intro wt;(try simp only [wI,aO,World.heap_drewN,aI] at wt);omega)) | (with_reducible refine Gr.dD (by assumption) ?_ ?_ <;> (intro wt;(try simp only [wI,aO,World.heap_drewN,aI] at wt);omega)) | exact aE (by assumption) (by assumption) | (with_reducible exact bI (by assumption) (by assumption) (by assumption))))) | go_keep) ((first
    | (go_at_call 172;(with_reducible refine (PA.out _ (Al.out _ Bn.drew) (AG.out _ Bn.drew)).mono ?_);rintro e w4 ⟨v4,rfl,xF,hb4⟩;have B4:=Bn.drew.trans (hb4.mono Bn.size);have r4:=n3.drew.keep hb4;have yW:=aE hb4 (af e1);have zR:=aE hb4 (af e2);have Af:=aE hb4 (af e3);have Aw:=aE hb4 (af e4);(have z4:wn.heap.size≤w4.heap.size:=hb4.size))
    | (go_at_call 171;(with_reducible refine (PT.out _ _ _ xF).mono ?_);rintro e w5 ⟨vc,rfl,hoc,hbc⟩;obtain ⟨ac,wX,rfl,hmc,xV⟩:=aF.view hoc;have B5:=d_ B4 hbc;have r5:=r4.keep hbc;have c0:=r5.c0;have c1:=r5.c1;have g0:=r5.f0;have g1:=r5.f1;have Bg:=aE hbc yW;have Cf:=aE hbc zR;have EE:=aE hbc Af;have ES:=aE hbc Aw;clear xV hmc)
    | fail "ARMS"))
   all_goals
    have hr:=cF (w:=w) (w.heap.size+1+1) _ (.bool s) (by omega) (Nat.lt_of_lt_of_le n3.size z4) hoc B5;generalize (Wh.a_ z.natAbs).length=yE at *;go_wp2;exact bodyPost_ret (v:=.agg #[.bool s,.slice ac yE wX]) (by simp [results,Tryz.results140,go_sem, *]) rfl (⟨_,rfl,hr.1,hr.2⟩)
  skip
  have PT:=wH (PT false _ hd);have PA:=wH (PA (-1) (Or.inr rfl) (by omega))
  have hr0:¬ Wh.xr (a.natAbs:Int) (b.natAbs:Int)<0:=by unfold Wh.xr;rw [if_neg (by omega)];split <;> omega
  generalize Wh.xr (a.natAbs:Int) (b.natAbs:Int)=rr at *;have PM:=wH PM;clear hlt hd hd';generalize (a.natAbs:Int)+-1*(b.natAbs:Int)=y at *;generalize Wh.a_ b.natAbs=ys,Wh.a_ a.natAbs=xs,a+b=z at *;generalize decide (z<0)=s,ys.length=l2,xs.length=l1 at *;have b1:=((ar.new w (.bool false) (.slice aa l1 o_) 125).alloc (.cells #[.bool true,.slice ab l2 wO] 125)).alloc (.cells #[.bool false,.slice none 0 0] 125);have b2:=(ar.new2 w (.cells #[.bool false,.slice aa l1 o_] 125) (.bool true) (.slice ab l2 wO) 125).alloc (.cells #[.bool false,.slice none 0 0] 125);have b3:=ar.new2 (w.alloc (.cells #[.bool false,.slice aa l1 o_] 125)) (.cells #[.bool true,.slice ab l2 wO] 125) (.bool false) (.slice none 0 0) 125;rw [wI] at b3;have hB:=(((wK w.heap.size w).alloc (wL _) (.cells #[.bool false,.slice aa l1 o_] 125)).alloc (by rw [wI];omega) (.cells #[.bool true,.slice ab l2 wO] 125)).alloc (by rw [wI,wI];omega) (.cells #[.bool false,.slice none 0 0] 125);generalize hw3:((w.alloc (.cells #[.bool false,.slice aa l1 o_] 125)).alloc (.cells #[.bool true,.slice ab l2 wO] 125)).alloc (.cells #[.bool false,.slice none 0 0] 125)=w3 at *;have i1:=b1.c0;have i2:=b1.c1;have i3:=b2.c0;have i4:=b2.c1;go_enter Tryz.func140,Tryz.ntmps140
  go_wp2_with (go_at_call 173;(with_reducible refine (PM.out _ (AG.out _ hB) (Al.out _ hB)).mono ?_);rintro e wm ⟨rfl,xx⟩;have m1:=b1.keep xx;have m2:=b2.keep xx;have m3:=b3.keep xx;have j1:=m1.c0;have j2:=m1.c1;have j3:=m2.c0;have j4:=m2.c1;have k1:=m1.f0;have k2:=m1.f1;have k3:=m2.f0;have k4:=m2.f1;have Bm:=d_ hB xx)
  have n1:=m1;have n2:=m2;have n3:=m3;have Bn:=Bm;clear i1 i2 i3 i4 j1 j2 j3 j4 k1 k2 k3 k4 m1 m2 m3 b1 b2 b3 xx;have e1:=n1.c0;have e2:=n1.c1;have e3:=n2.c0;have e4:=n2.c1
  go_region_held3 (fun W=>W.cell? ⟨w.heap.size,0,none⟩=some (.bool false)∧W.cell? ⟨w.heap.size,1,none⟩=some (.slice aa l1 o_)∧W.cell? ⟨w.heap.size+1,0,none⟩=some (.bool true)∧W.cell? ⟨w.heap.size+1,1,none⟩=some (.slice ab l2 wO)) (first | (refine ⟨?_,?_,?_,?_⟩ <;> (first | (with_reducible exact aE (by assumption) (by assumption)) | (with_reducible exact Gr.bJ (by assumption)) | (with_reducible refine Gr.bV (by assumption) ?_;(intro wt;(try simp only [wI,aO,World.heap_drewN,aI] at wt);omega)) | (with_reducible refine Gr.dD (by assumption) ?_ ?_ <;> (intro wt;(try simp only [wI,aO,World.heap_drewN,aI] at wt);omega)) | exact aE (by assumption) (by assumption) | (with_reducible exact bI (by assumption) (by assumption) (by assumption)))) | (go_split_ands;(refine ⟨?_,?_,?_,?_⟩ <;> (first | (with_reducible exact aE (by assumption) (by assumption)) | (with_reducible exact Gr.bJ (by assumption)) | (with_reducible refine Gr.bV (by assumption) ?_;(intro wt;(try simp only [wI,aO,World.heap_drewN,aI] at wt);omega)) | (with_reducible refine Gr.dD (by assumption) ?_ ?_ <;> (intro wt;(try simp only [wI,aO,World.heap_drewN,aI] at wt);omega)) | exact aE (by assumption) (by assumption) | (with_reducible exact bI (by assumption) (by assumption) (by assumption))))) | go_keep) ((first
   | (go_at_call 172;(with_reducible refine (PA.out _ (AG.out _ Bn.drew) (Al.out _ Bn.drew)).mono ?_);rintro e w4 ⟨v4,rfl,xF,hb4⟩;have B4:=Bn.drew.trans (hb4.mono Bn.size);have r4:=n3.drew.keep hb4;have yW:=aE hb4 (af e1);have zR:=aE hb4 (af e2);have Af:=aE hb4 (af e3);have Aw:=aE hb4 (af e4);(have z4:wm.heap.size≤w4.heap.size:=hb4.size))
   | (go_at_call 171;(with_reducible refine (PT.out _ _ _ xF).mono ?_);rintro e w5 ⟨vc,rfl,hoc,hbc⟩;obtain ⟨ac,wX,rfl,hmc,xV⟩:=aF.view hoc;have B5:=d_ B4 hbc;have r5:=r4.keep hbc;have c0:=r5.c0;have c1:=r5.c1;have g0:=r5.f0;have g1:=r5.f1;have Bg:=aE hbc yW;have Cf:=aE hbc zR;have EE:=aE hbc Af;have ES:=aE hbc Aw;clear xV hmc)
   | fail "ARMS"))
  all_goals
   have hr:=cF (w:=w) (w.heap.size+1+1) _ (.bool s) (by omega) (Nat.lt_of_lt_of_le n3.size z4) hoc B5;generalize (Wh.a_ z.natAbs).length=yE at *;go_wp2;exact bodyPost_ret (v:=.agg #[.bool s,.slice ac yE wX]) (by simp [results,Tryz.results140,go_sem, *]) rfl (⟨_,rfl,hr.1,hr.2⟩)
 skip
 have hd:=Wh.db (a:=a) (b:=b) hs1 hs2;have hd':=Wh.db (a:=b) (b:=a) hs2 hs1;rw [Int.add_comm b a] at hd'
 have PM:=fun W h1 h2=>dN a.natAbs b.natAbs true false (.slice aa (Wh.a_ a.natAbs).length o_) (.slice ab (Wh.a_ b.natAbs).length wO) W ba bb h1 h2 (by omega) (by omega)
 rw [hs1,hs2];clear hs1 hs2
 by_cases hlt:a.natAbs<b.natAbs
 ·skip
  have PT:=wH (EF false _ hd');have PA:=wH (PA' (-1) (Or.inr rfl) (by omega));rw [Wh.fg (by omega)] at PM;have PM:=wH PM;clear hlt hd hd';generalize (b.natAbs:Int)+-1*(a.natAbs:Int)=y at *;generalize Wh.a_ b.natAbs=ys,Wh.a_ a.natAbs=xs,a+b=z at *;generalize decide (z<0)=s,ys.length=l2,xs.length=l1 at *;have b1:=((ar.new w (.bool true) (.slice aa l1 o_) 125).alloc (.cells #[.bool false,.slice ab l2 wO] 125)).alloc (.cells #[.bool false,.slice none 0 0] 125);have b2:=(ar.new2 w (.cells #[.bool true,.slice aa l1 o_] 125) (.bool false) (.slice ab l2 wO) 125).alloc (.cells #[.bool false,.slice none 0 0] 125);have b3:=ar.new2 (w.alloc (.cells #[.bool true,.slice aa l1 o_] 125)) (.cells #[.bool false,.slice ab l2 wO] 125) (.bool false) (.slice none 0 0) 125;rw [wI] at b3;have hB:=(((wK w.heap.size w).alloc (wL _) (.cells #[.bool true,.slice aa l1 o_] 125)).alloc (by rw [wI];omega) (.cells #[.bool false,.slice ab l2 wO] 125)).alloc (by rw [wI,wI];omega) (.cells #[.bool false,.slice none 0 0] 125);generalize hw3:((w.alloc (.cells #[.bool true,.slice aa l1 o_] 125)).alloc (.cells #[.bool false,.slice ab l2 wO] 125)).alloc (.cells #[.bool false,.slice none 0 0] 125)=w3 at *;have i1:=b1.c0;have i2:=b1.c1;have i3:=b2.c0;have i4:=b2.c1;go_enter Tryz.func140,Tryz.ntmps140
  go_wp2_with (go_at_call 173;(with_reducible refine (PM.out _ (AG.out _ hB) (Al.out _ hB)).mono ?_);rintro e wm ⟨rfl,xx⟩;have m1:=b1.keep xx;have m2:=b2.keep xx;have m3:=b3.keep xx;have j1:=m1.c0;have j2:=m1.c1;have j3:=m2.c0;have j4:=m2.c1;have k1:=m1.f0;have k2:=m1.f1;have k3:=m2.f0;have k4:=m2.f1;have Bm:=d_ hB xx)
  have n1:=(m1.store (.bool false) (.slice ab l2 wO)).other (c:=w.heap.size+1) (by omega) (.bool true) (.slice aa l1 o_);have n2:=(m2.other (c:=w.heap.size) (by omega) (.bool false) (.slice ab l2 wO)).store (.bool true) (.slice aa l1 o_);have n3:=(m3.other (c:=w.heap.size) (by omega) (.bool false) (.slice ab l2 wO)).other (c:=w.heap.size+1) (by omega) (.bool true) (.slice aa l1 o_);have Bn:=(((Bm.setCell (p:=⟨w.heap.size,0,none⟩) (wL _) (.bool false)).setCell (p:=⟨w.heap.size,1,none⟩) (wL _) (.slice ab l2 wO)).setCell (p:=⟨w.heap.size+1,0,none⟩) (Nat.le_succ _) (.bool true)).setCell (p:=⟨w.heap.size+1,1,none⟩) (Nat.le_succ _) (.slice aa l1 o_);generalize hwn:((((wm.setCell ⟨w.heap.size,0,none⟩ (.bool false)).setCell ⟨w.heap.size,1,none⟩ (.slice ab l2 wO)).setCell ⟨w.heap.size+1,0,none⟩ (.bool true)).setCell ⟨w.heap.size+1,1,none⟩ (.slice aa l1 o_))=wn at *;clear i1 i2 i3 i4 j1 j2 j3 j4 k1 k2 k3 k4 m1 m2 m3 b1 b2 b3 xx;have e1:=n1.c0;have e2:=n1.c1;have e3:=n2.c0;have e4:=n2.c1
  go_region_held3 (fun W=>W.cell? ⟨w.heap.size,0,none⟩=some (.bool false)∧W.cell? ⟨w.heap.size,1,none⟩=some (.slice ab l2 wO)∧W.cell? ⟨w.heap.size+1,0,none⟩=some (.bool true)∧W.cell? ⟨w.heap.size+1,1,none⟩=some (.slice aa l1 o_)) (first | (refine ⟨?_,?_,?_,?_⟩ <;> (first | (with_reducible exact aE (by assumption) (by assumption)) | (with_reducible exact Gr.bJ (by assumption)) | (with_reducible refine Gr.bV (by assumption) ?_;(intro wt;(try simp only [wI,aO,World.heap_drewN,aI] at wt);omega)) | (with_reducible refine Gr.dD (by assumption) ?_ ?_ <;> (intro wt;(try simp only [wI,aO,World.heap_drewN,aI] at wt);omega)) | exact aE (by assumption) (by assumption) | (with_reducible exact bI (by assumption) (by assumption) (by assumption)))) | (go_split_ands;(refine ⟨?_,?_,?_,?_⟩ <;> (first | (with_reducible exact aE (by assumption) (by assumption)) | (with_reducible exact Gr.bJ (by assumption)) | (with_reducible refine Gr.bV (by assumption) ?_;(intro wt;(try simp only [wI,aO,World.heap_drewN,aI] at wt);omega)) | (with_reducible refine Gr.dD (by assumption) ?_ ?_ <;> (intro wt;(try simp only [wI,aO,World.heap_drewN,aI] at wt);omega)) | exact aE (by assumption) (by assumption) | (with_reducible exact bI (by assumption) (by assumption) (by assumption))))) | go_keep) ((first
   | (go_at_call 172;(with_reducible refine (PA.out _ (Al.out _ Bn.drew) (AG.out _ Bn.drew)).mono ?_);rintro e w4 ⟨v4,rfl,xF,hb4⟩;have B4:=Bn.drew.trans (hb4.mono Bn.size);have r4:=n3.drew.keep hb4;have yW:=aE hb4 (af e1);have zR:=aE hb4 (af e2);have Af:=aE hb4 (af e3);have Aw:=aE hb4 (af e4);(have z4:wn.heap.size≤w4.heap.size:=hb4.size))
   | (go_at_call 171;(with_reducible refine (PT.out _ _ _ xF).mono ?_);rintro e w5 ⟨vc,rfl,hoc,hbc⟩;obtain ⟨ac,wX,rfl,hmc,xV⟩:=aF.view hoc;have B5:=d_ B4 hbc;have r5:=r4.keep hbc;have c0:=r5.c0;have c1:=r5.c1;have g0:=r5.f0;have g1:=r5.f1;have Bg:=aE hbc yW;have Cf:=aE hbc zR;have EE:=aE hbc Af;have ES:=aE hbc Aw;clear xV hmc)
   | fail "ARMS"))
  all_goals
   have hr:=cF (w:=w) (w.heap.size+1+1) _ (.bool s) (by omega) (Nat.lt_of_lt_of_le n3.size z4) hoc B5;generalize (Wh.a_ z.natAbs).length=yE at *;go_wp2;exact bodyPost_ret (v:=.agg #[.bool s,.slice ac yE wX]) (by simp [results,Tryz.results140,go_sem, *]) rfl (⟨_,rfl,hr.1,hr.2⟩)
 skip
 have PT:=wH (PT true _ hd);have PA:=wH (PA (-1) (Or.inr rfl) (by omega))
 have hr0:¬ Wh.xr (a.natAbs:Int) (b.natAbs:Int)<0:=by unfold Wh.xr;rw [if_neg (by omega)];split <;> omega
 generalize Wh.xr (a.natAbs:Int) (b.natAbs:Int)=rr at *;have PM:=wH PM;clear hlt hd hd';generalize (a.natAbs:Int)+-1*(b.natAbs:Int)=y at *;generalize Wh.a_ b.natAbs=ys,Wh.a_ a.natAbs=xs,a+b=z at *;generalize decide (z<0)=s,ys.length=l2,xs.length=l1 at *;have b1:=((ar.new w (.bool true) (.slice aa l1 o_) 125).alloc (.cells #[.bool false,.slice ab l2 wO] 125)).alloc (.cells #[.bool false,.slice none 0 0] 125);have b2:=(ar.new2 w (.cells #[.bool true,.slice aa l1 o_] 125) (.bool false) (.slice ab l2 wO) 125).alloc (.cells #[.bool false,.slice none 0 0] 125);have b3:=ar.new2 (w.alloc (.cells #[.bool true,.slice aa l1 o_] 125)) (.cells #[.bool false,.slice ab l2 wO] 125) (.bool false) (.slice none 0 0) 125;rw [wI] at b3;have hB:=(((wK w.heap.size w).alloc (wL _) (.cells #[.bool true,.slice aa l1 o_] 125)).alloc (by rw [wI];omega) (.cells #[.bool false,.slice ab l2 wO] 125)).alloc (by rw [wI,wI];omega) (.cells #[.bool false,.slice none 0 0] 125);generalize hw3:((w.alloc (.cells #[.bool true,.slice aa l1 o_] 125)).alloc (.cells #[.bool false,.slice ab l2 wO] 125)).alloc (.cells #[.bool false,.slice none 0 0] 125)=w3 at *;have i1:=b1.c0;have i2:=b1.c1;have i3:=b2.c0;have i4:=b2.c1;go_enter Tryz.func140,Tryz.ntmps140
 go_wp2_with (go_at_call 173;(with_reducible refine (PM.out _ (AG.out _ hB) (Al.out _ hB)).mono ?_);rintro e wm ⟨rfl,xx⟩;have m1:=b1.keep xx;have m2:=b2.keep xx;have m3:=b3.keep xx;have j1:=m1.c0;have j2:=m1.c1;have j3:=m2.c0;have j4:=m2.c1;have k1:=m1.f0;have k2:=m1.f1;have k3:=m2.f0;have k4:=m2.f1;have Bm:=d_ hB xx)
 have n1:=m1;have n2:=m2;have n3:=m3;have Bn:=Bm;clear i1 i2 i3 i4 j1 j2 j3 j4 k1 k2 k3 k4 m1 m2 m3 b1 b2 b3 xx;have e1:=n1.c0;have e2:=n1.c1;have e3:=n2.c0;have e4:=n2.c1
 go_region_held3 (fun W=>W.cell? ⟨w.heap.size,0,none⟩=some (.bool true)∧W.cell? ⟨w.heap.size,1,none⟩=some (.slice aa l1 o_)∧W.cell? ⟨w.heap.size+1,0,none⟩=some (.bool false)∧W.cell? ⟨w.heap.size+1,1,none⟩=some (.slice ab l2 wO)) (first | (refine ⟨?_,?_,?_,?_⟩ <;> (first | (with_reducible exact aE (by assumption) (by assumption)) | (with_reducible exact Gr.bJ (by assumption)) | (with_reducible refine Gr.bV (by assumption) ?_;(intro wt;(try simp only [wI,aO,World.heap_drewN,aI] at wt);omega)) | (with_reducible refine Gr.dD (by assumption) ?_ ?_ <;> (intro wt;(try simp only [wI,aO,World.heap_drewN,aI] at wt);omega)) | exact aE (by assumption) (by assumption) | (with_reducible exact bI (by assumption) (by assumption) (by assumption)))) | (go_split_ands;(refine ⟨?_,?_,?_,?_⟩ <;> (first | (with_reducible exact aE (by assumption) (by assumption)) | (with_reducible exact Gr.bJ (by assumption)) | (with_reducible refine Gr.bV (by assumption) ?_;(intro wt;(try simp only [wI,aO,World.heap_drewN,aI] at wt);omega)) | (with_reducible refine Gr.dD (by assumption) ?_ ?_ <;> (intro wt;(try simp only [wI,aO,World.heap_drewN,aI] at wt);omega)) | exact aE (by assumption) (by assumption) | (with_reducible exact bI (by assumption) (by assumption) (by assumption))))) | go_keep) ((first
  | (go_at_call 172;(with_reducible refine (PA.out _ (AG.out _ Bn.drew) (Al.out _ Bn.drew)).mono ?_);rintro e w4 ⟨v4,rfl,xF,hb4⟩;have B4:=Bn.drew.trans (hb4.mono Bn.size);have r4:=n3.drew.keep hb4;have yW:=aE hb4 (af e1);have zR:=aE hb4 (af e2);have Af:=aE hb4 (af e3);have Aw:=aE hb4 (af e4);(have z4:wm.heap.size≤w4.heap.size:=hb4.size))
  | (go_at_call 171;(with_reducible refine (PT.out _ _ _ xF).mono ?_);rintro e w5 ⟨vc,rfl,hoc,hbc⟩;obtain ⟨ac,wX,rfl,hmc,xV⟩:=aF.view hoc;have B5:=d_ B4 hbc;have r5:=r4.keep hbc;have c0:=r5.c0;have c1:=r5.c1;have g0:=r5.f0;have g1:=r5.f1;have Bg:=aE hbc yW;have Cf:=aE hbc zR;have EE:=aE hbc Af;have ES:=aE hbc Aw;clear xV hmc)
  | fail "ARMS"))
 all_goals
  have hr:=cF (w:=w) (w.heap.size+1+1) _ (.bool s) (by omega) (Nat.lt_of_lt_of_le n3.size z4) hoc B5;generalize (Wh.a_ z.natAbs).length=yE at *;go_wp2;exact bodyPost_ret (v:=.agg #[.bool s,.slice ac yE wX]) (by simp [results,Tryz.results140,go_sem, *]) rfl (⟨_,rfl,hr.1,hr.2⟩)
end
end Go.Proofs.YtggekfbfechonaaGreat
